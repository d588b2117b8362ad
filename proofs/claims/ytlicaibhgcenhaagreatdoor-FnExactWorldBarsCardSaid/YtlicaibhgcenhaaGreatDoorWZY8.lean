/- Texts of this claim, set close: lemmas and contracts. -/
import Derived.Test.YtlicaibhgcenhaaGreatDoorWZY7
import Derived.Test.YtlicaibhgcenhaaGreatDoorWZY6
set_option linter.unusedSimpArgs false
set_option linter.unusedVariables false
set_option maxHeartbeats 1000000
set_option maxRecDepth 10000
namespace Go.Proofs.YtlicaibhgcenhaaGreatDoor
open Go Go.RowKit Go.Ab Go.Par
variable {m : Int}
theorem not_lower {b : UInt8} (h : (b.toNat : Int) < 97 ∨ (b.toNat : Int) > 122) : lower b = false := by
 unfold lower
 rcases h with h | h
 · have : ¬ 97 ≤ b.toNat := by omega
   simp [this]
 · have : ¬ b.toNat ≤ 122 := by omega
   simp [this]
theorem is_lower {b : UInt8} (h1 : ¬ (b.toNat : Int) < 97) (h2 : ¬ (b.toNat : Int) > 122) : lower b = true := by
 unfold lower
 have : 97 ≤ b.toNat := by omega
 have : b.toNat ≤ 122 := by omega
 simp [*]
theorem sName_con (s : Bs) (hs : s.length ≤ 9223372036854775806) : Con (E m) 197 0 [.s s] [] (.b (nameOk s)) [] := by
 refine con_of_cd tyOk mix Tryz.func197 rfl rfl rfl (Nat.le_of_ble_eq_true rfl) ?_
 repeat' first | refine Rw ⟨?_⟩ | (refine bsplit.mk (fun h => ?_) (fun h => ?_) <;> (try simp only [decide_eq_true_eq, decide_eq_false_iff_not, Bool.not_eq_true', Bool.not_eq_false', Bool.not_true, Bool.not_false, Bool.true_eq_false, Bool.false_eq_true, List.length_map] at h) <;> conv => whnf) | refine Rs ⟨?_⟩ | fail
 refine Cd.loop (fun n tm S nx => ∃ i : Nat, i ≤ s.length ∧ n = s.length - i ∧ tm = [(0, .s s), (3, .k .i64 i)] ∧ S = [] ∧ nx = 0 ∧ (s.take i).all lower = true) ⟨s.length, ?_⟩ ?_
 · refine la [0, 3] ?_
   conv => whnf
   refine ⟨rfl, rfl, 0, Nat.zero_le _, rfl, rfl, rfl, rfl, rfl⟩
 · rintro n tm S nx ⟨i, hi, hn, rfl, rfl, rfl, hp⟩
   repeat' first | refine Rw ⟨?_⟩ | (refine bsplit.mk (fun h => ?_) (fun h => ?_) <;> (try simp only [decide_eq_true_eq, decide_eq_false_iff_not, Bool.not_eq_true', Bool.not_eq_false', Bool.not_true, Bool.not_false, Bool.true_eq_false, Bool.false_eq_true, List.length_map] at h) <;> conv => whnf) | refine Rs ⟨?_⟩ | fail
   · have hf : s.all lower = false := all_false (List.getElem?_eq_getElem (by omega : i < s.length)) (not_lower (.inl ‹_›))
     refine Rg ⟨?_⟩
     first | rfl | (simp_all [nameOk]; done) | (simp [nameOk] <;> (repeat' split) <;> omega) | (simp only [nameOk]; repeat' split) <;> first | omega | (simp_all; done) | (simp_all; omega) | (rw [Bool.eq_iff_iff]; simp [*, nameOk] <;> omega)
   · have hf : s.all lower = false := all_false (List.getElem?_eq_getElem (by omega : i < s.length)) (not_lower (.inr ‹_›))
     refine Rg ⟨?_⟩
     first | rfl | (simp_all [nameOk]; done) | (simp [nameOk] <;> (repeat' split) <;> omega) | (simp only [nameOk]; repeat' split) <;> first | omega | (simp_all; done) | (simp_all; omega) | (rw [Bool.eq_iff_iff]; simp [*, nameOk] <;> omega)
   · refine .here ⟨n - 1, by omega, ?_⟩
     refine la [0, 3] ?_
     conv => whnf
     refine ⟨rfl, rfl, i + 1, by omega, by omega, rfl, rfl, rfl, all_take_succ hp (List.getElem?_eq_getElem (by omega : i < s.length)) (is_lower ‹_› ‹_›)⟩
   all_goals
    have ha : s.all lower = true := all_take_full hp (by omega)
    refine Rg ⟨?_⟩
    first | rfl | (simp_all [nameOk]; done) | (simp [nameOk] <;> (repeat' split) <;> omega) | (simp only [nameOk]; repeat' split) <;> first | omega | (simp_all; done) | (simp_all; omega) | (rw [Bool.eq_iff_iff]; simp [*, nameOk] <;> omega)
theorem iName_con (s : Bs) (hs : s.length ≤ 9223372036854775806) : Con (E m) 262 0 [.s s] [] (.b (nameOk s)) [] := by
 refine con_of_cd tyOk mix Tryz.func262 rfl rfl rfl (Nat.le_of_ble_eq_true rfl) ?_
 repeat' first | refine Rw ⟨?_⟩ | (refine bsplit.mk (fun h => ?_) (fun h => ?_) <;> (try simp only [decide_eq_true_eq, decide_eq_false_iff_not, Bool.not_eq_true', Bool.not_eq_false', Bool.not_true, Bool.not_false, Bool.true_eq_false, Bool.false_eq_true, List.length_map] at h) <;> conv => whnf) | refine Rs ⟨?_⟩ | fail
 · refine Rg ⟨?_⟩
   first | rfl | (simp_all [nameOk]; done) | (simp [nameOk] <;> (repeat' split) <;> omega) | (simp only [nameOk]; repeat' split) <;> first | omega | (simp_all; done) | (simp_all; omega) | (rw [Bool.eq_iff_iff]; simp [*, nameOk] <;> omega)
 · refine Rg ⟨?_⟩
   first | rfl | (simp_all [nameOk]; done) | (simp [nameOk] <;> (repeat' split) <;> omega) | (simp only [nameOk]; repeat' split) <;> first | omega | (simp_all; done) | (simp_all; omega) | (rw [Bool.eq_iff_iff]; simp [*, nameOk] <;> omega)
 refine Cd.loop (fun n tm S nx => ∃ i : Nat, i ≤ s.length ∧ n = s.length - i ∧ tm = [(0, .s s), (3, .k .i64 i)] ∧ S = [] ∧ nx = 0 ∧ (s.take i).all lower = true) ⟨s.length, ?_⟩ ?_
 · refine la [0, 3] ?_
   conv => whnf
   refine ⟨rfl, rfl, 0, Nat.zero_le _, rfl, rfl, rfl, rfl, rfl⟩
 · rintro n tm S nx ⟨i, hi, hn, rfl, rfl, rfl, hp⟩
   repeat' first | refine Rw ⟨?_⟩ | (refine bsplit.mk (fun h => ?_) (fun h => ?_) <;> (try simp only [decide_eq_true_eq, decide_eq_false_iff_not, Bool.not_eq_true', Bool.not_eq_false', Bool.not_true, Bool.not_false, Bool.true_eq_false, Bool.false_eq_true, List.length_map] at h) <;> conv => whnf) | refine Rs ⟨?_⟩ | fail
   · have hf : s.all lower = false := all_false (List.getElem?_eq_getElem (by omega : i < s.length)) (not_lower (.inl ‹_›))
     refine Rg ⟨?_⟩
     first | rfl | (simp_all [nameOk]; done) | (simp [nameOk] <;> (repeat' split) <;> omega) | (simp only [nameOk]; repeat' split) <;> first | omega | (simp_all; done) | (simp_all; omega) | (rw [Bool.eq_iff_iff]; simp [*, nameOk] <;> omega)
   · have hf : s.all lower = false := all_false (List.getElem?_eq_getElem (by omega : i < s.length)) (not_lower (.inr ‹_›))
     refine Rg ⟨?_⟩
     first | rfl | (simp_all [nameOk]; done) | (simp [nameOk] <;> (repeat' split) <;> omega) | (simp only [nameOk]; repeat' split) <;> first | omega | (simp_all; done) | (simp_all; omega) | (rw [Bool.eq_iff_iff]; simp [*, nameOk] <;> omega)
   · refine .here ⟨n - 1, by omega, ?_⟩
     refine la [0, 3] ?_
     conv => whnf
     refine ⟨rfl, rfl, i + 1, by omega, by omega, rfl, rfl, rfl, all_take_succ hp (List.getElem?_eq_getElem (by omega : i < s.length)) (is_lower ‹_› ‹_›)⟩
   all_goals
    have ha : s.all lower = true := all_take_full hp (by omega)
    refine Rg ⟨?_⟩
    first | rfl | (simp_all [nameOk]; done) | (simp [nameOk] <;> (repeat' split) <;> omega) | (simp only [nameOk]; repeat' split) <;> first | omega | (simp_all; done) | (simp_all; omega) | (rw [Bool.eq_iff_iff]; simp [*, nameOk] <;> omega)
theorem sCut_con (s : Bs) (c : UInt8) (hs : s.length ≤ 1073741824) : Con (E m) 22 0 [.s s, .k .u8 c.toNat] [] (.own 0) [(0, .own 9 ((cut c s).map fun l => [.s l]))] := by
 refine con_of_cd tyOk mix Tryz.func22 rfl rfl rfl (Nat.le_of_ble_eq_true rfl) ?_
 repeat' first | refine Rw ⟨?_⟩ | (refine bsplit.mk (fun h => ?_) (fun h => ?_) <;> (try simp only [decide_eq_true_eq, decide_eq_false_iff_not, Bool.not_eq_true', Bool.not_eq_false', Bool.not_true, Bool.not_false, Bool.true_eq_false, Bool.false_eq_true, List.length_map] at h) <;> conv => whnf) | refine Rs ⟨?_⟩ | fail
 refine Cd.loop (fun n tm S nx => ∃ (i fr : Nat) (done : List Bs), n = s.length + 1 - i ∧ tm = [(0, .s s), (1, .k .u8 c.toNat), (5, .own 0), (6, .k .i64 fr), (7, .k .i64 i)] ∧ S = [(0, .own 9 (done.map fun l => [.s l]))] ∧ nx = 1 ∧ cutting s c i fr done) ⟨s.length + 1, ?_⟩ ?_
 · refine la [0, 1, 5, 6, 7] ?_
   conv => whnf
   refine ⟨rfl, rfl, 0, 0, [], rfl, rfl, rfl, rfl, cutting_none s c⟩
 · rintro n tm S nx ⟨i, fr, done, hn, rfl, rfl, rfl, hp⟩
   have hd := hp.len
   have hfi := hp.le
   repeat' first | refine Rw ⟨?_⟩ | (refine bsplit.mk (fun h => ?_) (fun h => ?_) <;> (try simp only [decide_eq_true_eq, decide_eq_false_iff_not, Bool.not_eq_true', Bool.not_eq_false', Bool.not_true, Bool.not_false, Bool.true_eq_false, Bool.false_eq_true, List.length_map] at h) <;> conv => whnf) | refine Rs ⟨?_⟩ | fail
   · obtain rfl : i = s.length := by omega
     refine .here ⟨n - 1, by omega, ?_⟩
     refine la [0, 1, 5, 6, 7] ?_
     conv => whnf
     refine ⟨rfl, rfl, s.length + 1, s.length + 1, done ++ [(s.take s.length).drop fr], by omega, rfl, by rw [List.map_append]; rfl, rfl, hp.last⟩
   · have hb : s[i] = c := UInt8.toNat_inj.1 (by omega)
     refine .here ⟨n - 1, by omega, ?_⟩
     refine la [0, 1, 5, 6, 7] ?_
     conv => whnf
     refine ⟨rfl, rfl, i + 1, i + 1, done ++ [(s.take i).drop fr], by omega, rfl, by rw [List.map_append]; rfl, rfl, hp.hit (by omega) (by rw [List.getElem?_eq_getElem (by omega), hb])⟩
   · have hb : s[i] ≠ c := fun e => ‹¬((s[i].toNat : Int) = c.toNat)› (by rw [e])
     refine .here ⟨n - 1, by omega, ?_⟩
     refine la [0, 1, 5, 6, 7] ?_
     conv => whnf
     refine ⟨rfl, rfl, i + 1, fr, done, by omega, rfl, rfl, rfl, hp.miss (by omega) (by rw [List.getElem?_eq_getElem (by omega)]; exact fun e => hb (Option.some.inj e))⟩
   · have he := hp.all (by omega)
     first | refine CallEnd.here (fa ?_) | refine fa ?_
     conv => whnf
     first | exact ⟨rfl, rfl, rfl, rfl⟩ | refine ⟨rfl, rfl, congrArg some (congrArg D.s ?_), rfl⟩ | refine ⟨rfl, rfl, congrArg some (congrArg D.b ?_), rfl⟩ | refine ⟨rfl, rfl, congrArg some (congrArg (D.k _) ?_), rfl⟩ | refine ⟨rfl, rfl, congrArg some (congrArg D.agg ?_), rfl⟩ | refine ⟨rfl, rfl, rfl, ?_⟩
     rw [he]
     rfl
theorem sNames_con (s : Bs) (hs : s.length ≤ 1073741824) : Con (E m) 196 0 [.s s] [] (.own 0) [(0, .own 9 ((names s).map fun l => [.s l]))] := by
 match s, hs with
 | [], hs =>
   refine con_of_cd tyOk mix Tryz.func196 rfl rfl rfl (Nat.le_of_ble_eq_true rfl) ?_
   repeat' first | refine Rw ⟨?_⟩ | (refine bsplit.mk (fun h => ?_) (fun h => ?_) <;> (try simp only [decide_eq_true_eq, decide_eq_false_iff_not, Bool.not_eq_true', Bool.not_eq_false', Bool.not_true, Bool.not_false, Bool.true_eq_false, Bool.false_eq_true, List.length_map] at h) <;> conv => whnf) | refine Rs ⟨?_⟩ | fail
   · refine Rg ⟨?_⟩
     first | rfl | (simp_all [names]; done) | (simp [names] <;> (repeat' split) <;> omega) | (simp only [names]; repeat' split) <;> first | omega | (simp_all; done) | (simp_all; omega) | (rw [Bool.eq_iff_iff]; simp [*, names] <;> omega)
   · exact absurd (by decide : ((([] : Bs).length : Int) < 2)) ‹_›
 | x :: r, hs =>
   refine con_of_cd tyOk mix Tryz.func196 rfl rfl rfl (Nat.le_of_ble_eq_true rfl) ?_
   have hs' : (((x :: r).take (x :: r).length).drop 1).length ≤ 1073741824 := by simp at hs ⊢; omega
   have hc := sCut_con (m := m) (((x :: r).take (x :: r).length).drop 1) 47 hs'
   rw [show cut 47 (((x :: r).take (x :: r).length).drop 1) = cut 47 r by rw [List.take_length]; rfl] at hc
   repeat' first | refine Rw ⟨?_⟩ | (refine bsplit.mk (fun h => ?_) (fun h => ?_) <;> (try simp only [decide_eq_true_eq, decide_eq_false_iff_not, Bool.not_eq_true', Bool.not_eq_false', Bool.not_true, Bool.not_false, Bool.true_eq_false, Bool.false_eq_true, List.length_map] at h) <;> conv => whnf) | (refine Rc [] 1 rfl rfl (hc) ?_; conv => whnf) | refine Rs ⟨?_⟩ | fail
   · have hr : r = [] := by
       have h : ((x :: r).length : Int) < 2 := ‹_›
       simp only [List.length_cons] at h
       exact List.eq_nil_of_length_eq_zero (by omega)
     have hn : names (x :: r) = [] := by simp [names, hr]
     rw [hn]
     exact Rf
   · have hx : x ≠ 47 := fun e => ‹¬((x.toNat : Int) = 47)› (by rw [e]; rfl)
     have hn : names (x :: r) = [] := by simp [names, hx]
     rw [hn]
     exact Rf
   · have hx : x = 47 := UInt8.toNat_inj.1 (by have h : (x.toNat : Int) = 47 := ‹_›; exact Int.ofNat_inj.1 h)
     have hr : r ≠ [] := by
      rintro rfl
      have h : ¬ (([x] : Bs).length : Int) < 2 := ‹_›
      simp at h
     have hn : names (x :: r) = cut 47 r := by simp [names, hx, hr]
     rw [hn]
     exact Rf
theorem sPathOk_con (s : Bs) (hs : s.length ≤ 1073741824) : Con (E m) 131 0 [.s s] [] (.b (pathOk s)) [] := by
 have hl := names_len s
 have hp := names_piece s
 refine con_of_cd tyOk mix Tryz.func131 rfl rfl rfl (Nat.le_of_ble_eq_true rfl) ?_
 repeat' first | refine Rw ⟨?_⟩ | (refine bsplit.mk (fun h => ?_) (fun h => ?_) <;> (try simp only [decide_eq_true_eq, decide_eq_false_iff_not, Bool.not_eq_true', Bool.not_eq_false', Bool.not_true, Bool.not_false, Bool.true_eq_false, Bool.false_eq_true, List.length_map] at h) <;> conv => whnf) | (refine Rc [] 1 rfl rfl (sNames_con s hs) ?_; conv => whnf) | refine Rs ⟨?_⟩ | fail
 · refine Rg ⟨?_⟩
   first | rfl | (simp_all [pathOk]; done) | (simp [pathOk] <;> (repeat' split) <;> omega) | (simp only [pathOk]; repeat' split) <;> first | omega | (simp_all; done) | (simp_all; omega) | (rw [Bool.eq_iff_iff]; simp [*, pathOk] <;> omega)
 · refine Cd.loop (fun n tm S nx => ∃ i : Nat, i ≤ (names s).length ∧ n = (names s).length - i ∧ tm = [(0, .s s), (3, .own 0), (4, .k .i64 i)] ∧ S = [(0, .own 9 ((names s).map fun l => [.s l]))] ∧ nx = 1 ∧ ((names s).take i).all nameOk = true) ⟨(names s).length, ?_⟩ ?_
   · refine la [0, 3, 4] ?_
     conv => whnf
     refine ⟨rfl, rfl, 0, Nat.zero_le _, rfl, rfl, rfl, rfl, rfl⟩
   · rintro n tm S nx ⟨i, hi, hn, rfl, rfl, rfl, ha⟩
     repeat' first | refine Rw ⟨?_⟩ | (refine bsplit.mk (fun h => ?_) (fun h => ?_) <;> (try simp only [decide_eq_true_eq, decide_eq_false_iff_not, Bool.not_eq_true', Bool.not_eq_false', Bool.not_true, Bool.not_false, Bool.true_eq_false, Bool.false_eq_true, List.length_map] at h) <;> conv => whnf) | (refine Rc [] 0 rfl rfl (sName_con _ (by have := hp _ (List.getElem_mem (by omega : i < (names s).length)); omega)) ?_; conv => whnf) | refine Rs ⟨?_⟩ | fail
     · have hf : (names s).all nameOk = false := all_false (List.getElem?_eq_getElem (by omega : i < (names s).length)) ‹_›
       refine Rg ⟨?_⟩
       first | rfl | (simp_all [pathOk]; done) | (simp [pathOk] <;> (repeat' split) <;> omega) | (simp only [pathOk]; repeat' split) <;> first | omega | (simp_all; done) | (simp_all; omega) | (rw [Bool.eq_iff_iff]; simp [*, pathOk] <;> omega)
     · refine .here ⟨n - 1, by omega, ?_⟩
       refine la [0, 3, 4] ?_
       conv => whnf
       refine ⟨rfl, rfl, i + 1, by omega, by omega, rfl, rfl, rfl, all_take_succ ha (List.getElem?_eq_getElem (by omega : i < (names s).length)) ‹_›⟩
     all_goals
      have hf : (names s).all nameOk = true := all_take_full ha (by omega)
      refine Rg ⟨?_⟩
      first | rfl | (simp_all [pathOk]; done) | (simp [pathOk] <;> (repeat' split) <;> omega) | (simp only [pathOk]; repeat' split) <;> first | omega | (simp_all; done) | (simp_all; omega) | (rw [Bool.eq_iff_iff]; simp [*, pathOk] <;> omega)
theorem sSlash_con (s : Bs) (h1 : 1 ≤ s.length) (hs : s.length ≤ 1073741824) : Con (E m) 255 0 [.s s] [] (.k .i64 (slash s)) [] := by
 refine con_of_cd tyOk mix Tryz.func255 rfl rfl rfl (Nat.le_of_ble_eq_true rfl) ?_
 repeat' first | refine Rw ⟨?_⟩ | (refine bsplit.mk (fun h => ?_) (fun h => ?_) <;> (try simp only [decide_eq_true_eq, decide_eq_false_iff_not, Bool.not_eq_true', Bool.not_eq_false', Bool.not_true, Bool.not_false, Bool.true_eq_false, Bool.false_eq_true, List.length_map] at h) <;> conv => whnf) | refine Rs ⟨?_⟩ | fail
 refine Cd.loop (fun n tm S nx => ∃ (k : Nat) (j : Int), j = k ∧ k + 1 ≤ s.length ∧ n = k ∧ tm = [(0, .s s), (3, .k .i64 j)] ∧ S = [] ∧ nx = 0 ∧ slash s = slashAt s k) ⟨s.length - 1, ?_⟩ ?_
 · refine la [0, 3] ?_
   conv => whnf
   refine ⟨rfl, rfl, s.length - 1, (s.length : Int) - 1, by omega, by omega, rfl, rfl, rfl, rfl, rfl⟩
 · rintro n tm S nx ⟨k, j, rfl, hk, hn, rfl, rfl, rfl, ha⟩
   repeat' first | refine Rw ⟨?_⟩ | (refine bsplit.mk (fun h => ?_) (fun h => ?_) <;> (try simp only [decide_eq_true_eq, decide_eq_false_iff_not, Bool.not_eq_true', Bool.not_eq_false', Bool.not_true, Bool.not_false, Bool.true_eq_false, Bool.false_eq_true, List.length_map] at h) <;> conv => whnf) | refine Rs ⟨?_⟩ | fail
   · obtain ⟨k, rfl⟩ : ∃ q, k = q + 1 := ⟨k - 1, by omega⟩
     have hb : s[k + 1] ≠ 47 := fun e => ‹¬((s[k + 1].toNat : Int) = 47)› (by rw [e]; rfl)
     refine .here ⟨n - 1, by omega, ?_⟩
     refine la [0, 3] ?_
     conv => whnf
     refine ⟨rfl, rfl, k, ((k + 1 : Nat) : Int) - 1, by omega, by omega, by omega, rfl, rfl, rfl, ?_⟩
     rw [ha, slashAt, if_neg (by rw [List.getElem?_eq_getElem (by omega)]; exact fun e => hb (Option.some.inj e))]
   · obtain ⟨k, rfl⟩ : ∃ q, k = q + 1 := ⟨k - 1, by omega⟩
     have hb : s[k + 1] = 47 := UInt8.toNat_inj.1 (by have h : (s[k + 1].toNat : Int) = 47 := ‹_›; exact Int.ofNat_inj.1 h)
     have h2 : s[k + 1]? = some 47 := (List.getElem?_eq_getElem (by omega)).trans (congrArg some hb)
     have he : slash s = k + 1 := by rw [ha, slashAt, if_pos h2]
     rw [he]
     exact Rf
   · have h0 : k = 0 := by omega
     subst h0
     have he : slash s = 0 := ha
     rw [he]
     exact Rf
theorem sUp_con (s : Bs) (hs : s.length ≤ 1073741824) : Con (E m) 195 0 [.s s] [] (.s (pathUp s)) [] := by
 have h1 := sPathOk_con (m := m) s hs
 have hl := slash_le s
 cases hok : pathOk s with
 | false =>
   rw [hok] at h1
   refine con_of_cd tyOk mix Tryz.func195 rfl rfl rfl (Nat.le_of_ble_eq_true rfl) ?_
   repeat' first | refine Rw ⟨?_⟩ | (refine bsplit.mk (fun h => ?_) (fun h => ?_) <;> (try simp only [decide_eq_true_eq, decide_eq_false_iff_not, Bool.not_eq_true', Bool.not_eq_false', Bool.not_true, Bool.not_false, Bool.true_eq_false, Bool.false_eq_true, List.length_map] at h) <;> conv => whnf) | (refine Rc [] 0 rfl rfl (h1) ?_; conv => whnf) | refine Rs ⟨?_⟩ | fail
   refine Rg ⟨?_⟩
   first | rfl | (simp_all [pathUp]; done) | (simp [pathUp] <;> (repeat' split) <;> omega) | (simp only [pathUp]; repeat' split) <;> first | omega | (simp_all; done) | (simp_all; omega) | (rw [Bool.eq_iff_iff]; simp [*, pathUp] <;> omega)
 | true =>
   rw [hok] at h1
   have hp := pathOk_pos hok
   refine con_of_cd tyOk mix Tryz.func195 rfl rfl rfl (Nat.le_of_ble_eq_true rfl) ?_
   repeat' first | refine Rw ⟨?_⟩ | (refine bsplit.mk (fun h => ?_) (fun h => ?_) <;> (try simp only [decide_eq_true_eq, decide_eq_false_iff_not, Bool.not_eq_true', Bool.not_eq_false', Bool.not_true, Bool.not_false, Bool.true_eq_false, Bool.false_eq_true, List.length_map] at h) <;> conv => whnf) | (refine Rc [] 0 rfl rfl (h1) ?_; conv => whnf) | (refine Rc [] 0 rfl rfl (sSlash_con s hp.1 hs) ?_; conv => whnf) | refine Rs ⟨?_⟩ | fail
   · have h0 : slash s = 0 := by omega
     refine Rg ⟨?_⟩
     first | rfl | (simp_all [pathUp]; done) | (simp [pathUp] <;> (repeat' split) <;> omega) | (simp only [pathUp]; repeat' split) <;> first | omega | (simp_all; done) | (simp_all; omega) | (rw [Bool.eq_iff_iff]; simp [*, pathUp] <;> omega)
   · have h0 : slash s ≠ 0 := by omega
     refine Rg ⟨?_⟩
     first | rfl | (simp_all [pathUp]; done) | (simp [pathUp] <;> (repeat' split) <;> omega) | (simp only [pathUp]; repeat' split) <;> first | omega | (simp_all; done) | (simp_all; omega) | (rw [Bool.eq_iff_iff]; simp [*, pathUp] <;> omega)
theorem sData_con (s : Bs) (hs : s.length ≤ 1073741824) : Con (E m) 186 0 [.s s] [] (.b (dataOk s)) [] := by
 refine con_of_cd tyOk mix Tryz.func186 rfl rfl rfl (Nat.le_of_ble_eq_true rfl) ?_
 repeat' first | refine Rw ⟨?_⟩ | (refine bsplit.mk (fun h => ?_) (fun h => ?_) <;> (try simp only [decide_eq_true_eq, decide_eq_false_iff_not, Bool.not_eq_true', Bool.not_eq_false', Bool.not_true, Bool.not_false, Bool.true_eq_false, Bool.false_eq_true, List.length_map] at h) <;> conv => whnf) | refine Rs ⟨?_⟩ | fail
 refine Cd.loop (fun n tm S nx => ∃ i : Nat, i ≤ s.length ∧ n = s.length - i ∧ tm = [(0, .s s), (3, .k .i64 i)] ∧ S = [] ∧ nx = 0 ∧ (s.take i).all (fun b => lower b || digit b) = true) ⟨s.length, ?_⟩ ?_
 · refine la [0, 3] ?_
   conv => whnf
   refine ⟨rfl, rfl, 0, Nat.zero_le _, rfl, rfl, rfl, rfl, rfl⟩
 · rintro n tm S nx ⟨i, hi, hn, rfl, rfl, rfl, ha⟩
   repeat' first | refine Rw ⟨?_⟩ | (refine bsplit.mk (fun h => ?_) (fun h => ?_) <;> (try simp only [decide_eq_true_eq, decide_eq_false_iff_not, Bool.not_eq_true', Bool.not_eq_false', Bool.not_true, Bool.not_false, Bool.true_eq_false, Bool.false_eq_true, List.length_map] at h) <;> conv => whnf) | refine Rs ⟨?_⟩ | fail
   all_goals first
    | (have hf : s.all (fun b => lower b || digit b) = false := all_false (List.getElem?_eq_getElem (by omega : i < s.length)) (ld_false (by omega))
       (first | refine CallEnd.here (fa ?_) | refine fa ?_)
       conv => whnf
       refine ⟨rfl, rfl, congrArg some (congrArg D.b ?_), rfl⟩
       first | (simp_all [dataOk]; done) | (rw [Bool.eq_iff_iff]; simp [*, dataOk] <;> omega))
    | (refine .here ⟨n - 1, by omega, ?_⟩
       refine la [0, 3] ?_
       conv => whnf
       refine ⟨rfl, rfl, i + 1, by omega, by omega, rfl, rfl, rfl, all_take_succ ha (List.getElem?_eq_getElem (by omega : i < s.length)) (ld_true (by omega))⟩)
    | (have hf : s.all (fun b => lower b || digit b) = true := all_take_full ha (by omega)
       (first | refine CallEnd.here (fa ?_) | refine fa ?_)
       conv => whnf
       refine ⟨rfl, rfl, congrArg some (congrArg D.b ?_), rfl⟩
       first | (simp_all [dataOk]; done) | (rw [Bool.eq_iff_iff]; simp [*, dataOk] <;> omega))
theorem sFind_con (t : List Ent) (p : Bs) (ht : t.length ≤ 1073741824) : Con (E m) 198 0 [.sl (t.map Ent.c), .s p] [] (.k .i64 (entIx t p)) [] := by
 refine con_of_cd tyOk mix Tryz.func198 rfl rfl rfl (Nat.le_of_ble_eq_true rfl) ?_
 repeat' first | refine Rw ⟨?_⟩ | (refine bsplit.mk (fun h => ?_) (fun h => ?_) <;> (try simp only [decide_eq_true_eq, decide_eq_false_iff_not, Bool.not_eq_true', Bool.not_eq_false', Bool.not_true, Bool.not_false, Bool.true_eq_false, Bool.false_eq_true, List.length_map] at h) <;> conv => whnf) | refine Rs ⟨?_⟩ | fail
 refine Cd.loop (fun n tm S nx => ∃ i : Nat, i ≤ t.length ∧ n = t.length - i ∧ tm = [(0, .sl (t.map Ent.c)), (1, .s p), (5, .k .i64 i)] ∧ S = [] ∧ nx = 0 ∧ ∀ k e, k < i → t[k]? = some e → e.path ≠ p) ⟨t.length, ?_⟩ ?_
 · refine la [0, 1, 5] ?_
   conv => whnf
   refine ⟨rfl, rfl, 0, Nat.zero_le _, rfl, rfl, rfl, rfl, fun k e h => absurd h (Nat.not_lt_zero _)⟩
 · rintro n tm S nx ⟨i, hi, hn, rfl, rfl, rfl, ha⟩
   repeat' first | refine Rw ⟨?_⟩ | (refine bsplit.mk (fun h => ?_) (fun h => ?_) <;> (try simp only [decide_eq_true_eq, decide_eq_false_iff_not, Bool.not_eq_true', Bool.not_eq_false', Bool.not_true, Bool.not_false, Bool.true_eq_false, Bool.false_eq_true, List.length_map] at h) <;> conv => whnf) | refine Rs ⟨?_⟩ | fail
   · have he : entIx t p = i := entIx_at (List.getElem?_eq_getElem (by omega)) ‹_› ha
     rw [he]
     exact Rf
   · refine .here ⟨n - 1, by omega, ?_⟩
     refine la [0, 1, 5] ?_
     conv => whnf
     refine ⟨rfl, rfl, i + 1, by omega, by omega, rfl, rfl, rfl, fun k e h1 h2 => ?_⟩
     by_cases hk : k = i
     · subst hk
       rw [List.getElem?_eq_getElem (by omega)] at h2
       cases h2
       assumption
     · exact ha k e (by omega) h2
   · have he : entIx t p = -1 := entIx_none fun k e h => ha k e (by have := (List.getElem?_eq_some_iff.1 h).1; omega) h
     rw [he]
     exact Rf
theorem sDir_con (t : List Ent) (p : Bs) (ht : t.length ≤ 1073741824) : Con (E m) 194 0 [.sl (t.map Ent.c), .s p] [] (.b (dirAt t p)) [] := by
 have h1 := sFind_con (m := m) t p ht
 rcases entIx_or t p with ⟨i, hx, hi, he⟩ | ⟨hx, he⟩
 · rw [hx] at h1
   refine con_of_cd tyOk mix Tryz.func194 rfl rfl rfl (Nat.le_of_ble_eq_true rfl) ?_
   repeat' first | refine Rw ⟨?_⟩ | (refine bsplit.mk (fun h => ?_) (fun h => ?_) <;> (try simp only [decide_eq_true_eq, decide_eq_false_iff_not, Bool.not_eq_true', Bool.not_eq_false', Bool.not_true, Bool.not_false, Bool.true_eq_false, Bool.false_eq_true, List.length_map] at h) <;> conv => whnf) | (refine Rc [] 0 rfl rfl (h1) ?_; conv => whnf) | refine Rs ⟨?_⟩ | fail
   · refine Rg ⟨?_⟩
     first | rfl | (simp_all [dirAt]; done) | (simp [dirAt] <;> (repeat' split) <;> omega) | (simp only [dirAt]; repeat' split) <;> first | omega | (simp_all; done) | (simp_all; omega) | (rw [Bool.eq_iff_iff]; simp [*, dirAt] <;> omega)
   · have hd : dirAt t p = t[i].dir := by
       unfold dirAt
       rw [he]
       simp [isDirO, ‹¬p = [47]›]
     rw [hd]
     exact Rf
   all_goals exact absurd (Int.natCast_nonneg i) ‹_›
 · rw [hx] at h1
   refine con_of_cd tyOk mix Tryz.func194 rfl rfl rfl (Nat.le_of_ble_eq_true rfl) ?_
   repeat' first | refine Rw ⟨?_⟩ | (refine bsplit.mk (fun h => ?_) (fun h => ?_) <;> (try simp only [decide_eq_true_eq, decide_eq_false_iff_not, Bool.not_eq_true', Bool.not_eq_false', Bool.not_true, Bool.not_false, Bool.true_eq_false, Bool.false_eq_true, List.length_map] at h) <;> conv => whnf) | (refine Rc [] 0 rfl rfl (h1) ?_; conv => whnf) | refine Rs ⟨?_⟩ | fail
   · refine Rg ⟨?_⟩
     first | rfl | (simp_all [dirAt]; done) | (simp [dirAt] <;> (repeat' split) <;> omega) | (simp only [dirAt]; repeat' split) <;> first | omega | (simp_all; done) | (simp_all; omega) | (rw [Bool.eq_iff_iff]; simp [*, dirAt] <;> omega)
   all_goals first
    | exact absurd (by decide : ¬ ((-1 : Int) ≥ 0)) (not_not_intro ‹_›)
    | (have hd : dirAt t p = false := by
         unfold dirAt
         rw [he]
         simp [isDirO, ‹¬p = [47]›]
       rw [hd]
       (first | refine CallEnd.here (fa ?_) | refine fa ?_)
       conv => whnf
       refine ⟨rfl, rfl, congrArg some (congrArg D.b ?_), rfl⟩
       first | (simp_all [dirAt]; done) | (rw [Bool.eq_iff_iff]; simp [*, dirAt] <;> omega))
theorem sTreeOk_con (t : List Ent) (hb : ∀ e ∈ t, e.path.length ≤ 1073741824 ∧ e.data.length ≤ 1073741824) : Con (E m) 130 0 [.sl (t.map Ent.c)] [] (.b (treeOk t)) [] := by
 refine con_of_cd tyOk mix Tryz.func130 rfl rfl rfl (Nat.le_of_ble_eq_true rfl) ?_
 repeat' first | refine Rw ⟨?_⟩ | (refine bsplit.mk (fun h => ?_) (fun h => ?_) <;> (try simp only [decide_eq_true_eq, decide_eq_false_iff_not, Bool.not_eq_true', Bool.not_eq_false', Bool.not_true, Bool.not_false, Bool.true_eq_false, Bool.false_eq_true, List.length_map] at h) <;> conv => whnf) | refine Rs ⟨?_⟩ | fail
 · have hf : treeOk t = false := by
     have : ¬ t.length ≤ 16 := by omega
     simp [treeOk, this]
   rw [hf]
   exact Rf
 refine Cd.loop (fun n tm S nx => ∃ i : Nat, i ≤ t.length ∧ n = t.length - i ∧ tm = [(0, .sl (t.map Ent.c)), (3, .k .i64 i)] ∧ S = [] ∧ nx = 0 ∧ ∀ k, k < i → okS t k = true) ⟨t.length, ?_⟩ ?_
 · refine la [0, 3] ?_
   conv => whnf
   refine ⟨rfl, rfl, 0, Nat.zero_le _, rfl, rfl, rfl, rfl, fun k h => absurd h (Nat.not_lt_zero _)⟩
 · rintro n tm S nx ⟨i, hi, hn, rfl, rfl, rfl, ha⟩
   by_cases hlt : i < t.length
   · have hq := hb t[i] (List.getElem_mem hlt)
     have h1 := sPathOk_con (m := m) t[i].path hq.1
     have h2 := sData_con (m := m) t[i].data hq.2
     have h3 := sUp_con (m := m) t[i].path hq.1
     have h4 := sDir_con (m := m) (t.take i) (pathUp t[i].path) (by rw [List.length_take]; omega)
     rw [List.map_take] at h4
     repeat' first | refine Rw ⟨?_⟩ | (refine bsplit.mk (fun h => ?_) (fun h => ?_) <;> (try simp only [decide_eq_true_eq, decide_eq_false_iff_not, Bool.not_eq_true', Bool.not_eq_false', Bool.not_true, Bool.not_false, Bool.true_eq_false, Bool.false_eq_true, List.length_map] at h) <;> conv => whnf) | (refine Rc [] 0 rfl rfl (h1) ?_; conv => whnf) | (refine Rc [] 0 rfl rfl (h2) ?_; conv => whnf) | (refine Rc [] 0 rfl rfl (h3) ?_; conv => whnf) | (refine Rc [] 0 rfl rfl (h4) ?_; conv => whnf) | (refine ⟨i - 1, _, by omega, map_get (by omega), rfl, ?_⟩; conv => whnf) | refine Rs ⟨?_⟩ | fail
     all_goals first
      | (have hf : okS t i = false := by
           clear h1 h2 h3 h4 hb ha hn
           rw [okS_eq hlt]
           simp_all [entOk, lt]
         have hg := treeOk_false hlt hf
         rw [hg]
         refine CallEnd.here (fa ?_)
         conv => whnf
         exact ⟨rfl, rfl, rfl, rfl⟩)
      | (have hf : okS t i = true := by
           clear h1 h2 h3 h4 hb ha hn
           rw [okS_eq hlt]
           simp_all [entOk, lt]
         refine .here ⟨n - 1, by omega, ?_⟩
         refine la [0, 3] ?_
         conv => whnf
         refine ⟨rfl, rfl, i + 1, by omega, by omega, rfl, rfl, rfl, fun k hk => ?_⟩
         by_cases hki : k = i
         · rw [hki]; exact hf
         · exact ha k (by omega))
      | (have hf : okS t i = false := by
           have hbl : lt (t[i - 1]'(by omega)).path t[i].path = false := ‹Op.bytesLess (t[i - 1]'(by omega)).path t[i].path = false›
           rw [okS_eq hlt, if_pos (by omega : 0 < i), hbl]
           simp
         have hg := treeOk_false hlt hf
         rw [hg]
         refine CallEnd.here (fa ?_)
         conv => whnf
         exact ⟨rfl, rfl, rfl, rfl⟩)
      | exact absurd hlt (by omega)
   · repeat' first | refine Rw ⟨?_⟩ | (refine bsplit.mk (fun h => ?_) (fun h => ?_) <;> (try simp only [decide_eq_true_eq, decide_eq_false_iff_not, Bool.not_eq_true', Bool.not_eq_false', Bool.not_true, Bool.not_false, Bool.true_eq_false, Bool.false_eq_true, List.length_map] at h) <;> conv => whnf) | refine Rs ⟨?_⟩ | fail
     · exact absurd hlt (by omega)
     · have hf : treeOk t = true := treeOk_true (by omega) fun k hk => ha k (by omega)
       rw [hf]
       exact Rf
end Go.Proofs.YtlicaibhgcenhaaGreatDoor
