/- Texts of this claim, set close: lemmas and contracts. -/
import Derived.Test.YtlicaibhgcenhaaGreatDoorWZY9
import Derived.Test.YtlicaibhgcenhaaGreatDoorWZY6
import Derived.Test.YtlicaibhgcenhaaGreatDoorWZY3
set_option linter.unusedSimpArgs false
set_option linter.unusedVariables false
set_option maxHeartbeats 1000000
set_option maxRecDepth 10000
namespace Go.Proofs.YtlicaibhgcenhaaGreatDoor
open Go Go.RowKit Go.Ab Go.Par
variable {m : Int}
theorem iTreeOk_con (t : List Ent) (hb : ∀ e ∈ t, e.path.length ≤ 1073741824 ∧ e.data.length ≤ 1073741824) : Con (E m) 174 0 [.sl (t.map Ent.c)] [] (.b (treeOk t)) [] := by
 refine con_of_cd tyOk mix Tryz.func174 rfl rfl rfl (Nat.le_of_ble_eq_true rfl) ?_
 repeat' first | refine Rw ⟨?_⟩ | (refine bsplit.mk (fun h => ?_) (fun h => ?_) <;> (try simp only [decide_eq_true_eq, decide_eq_false_iff_not, Bool.not_eq_true', Bool.not_eq_false', Bool.not_true, Bool.not_false, Bool.true_eq_false, Bool.false_eq_true, List.length_map] at h) <;> conv => whnf) | refine Rs ⟨?_⟩ | fail
 · have hf : treeOk t = false := by
     have : ¬ t.length ≤ 16 := by omega
     simp [treeOk, this]
   rw [hf]
   exact Rf
 refine Cd.loop (fun n tm S nx => ∃ i : Nat, i ≤ t.length ∧ n = t.length - i ∧ tm = [(0, .sl (t.map Ent.c)), (8, .sl (t.map Ent.c)), (9, .k .i64 (t.map Ent.c).length), (10, .k .i64 i)] ∧ S = [] ∧ nx = 0 ∧ ∀ k, k < i → okI t k = true) ⟨t.length, ?_⟩ ?_
 · refine la [0, 8, 9, 10] ?_
   conv => whnf
   refine ⟨rfl, rfl, 0, Nat.zero_le _, rfl, rfl, rfl, rfl, fun k h => absurd h (Nat.not_lt_zero _)⟩
 · rintro n tm S nx ⟨i, hi, hn, rfl, rfl, rfl, ha⟩
   by_cases hlt : i < t.length
   · have hq := hb t[i] (List.getElem_mem hlt)
     have h1 := iPathOk_con (m := m) t[i].path hq.1
     have h2 := iData_con (m := m) t[i].data hq.2
     have h3 := iUpCode_con (m := m) t t[i].path (by omega) hq.1
     repeat' first | refine Rw ⟨?_⟩ | (refine bsplit.mk (fun h => ?_) (fun h => ?_) <;> (try simp only [decide_eq_true_eq, decide_eq_false_iff_not, Bool.not_eq_true', Bool.not_eq_false', Bool.not_true, Bool.not_false, Bool.true_eq_false, Bool.false_eq_true, List.length_map] at h) <;> conv => whnf) | (refine Rc [] 0 rfl rfl (h1) ?_; conv => whnf) | (refine Rc [] 0 rfl rfl (h2) ?_; conv => whnf) | (refine Rc [] 0 rfl rfl (h3) ?_; conv => whnf) | (refine ⟨i - 1, _, by omega, map_get (by omega), rfl, ?_⟩; conv => whnf) | refine Rs ⟨?_⟩ | fail
     all_goals first
      | (have hf : okI t i = false := by
           clear h1 h2 h3 hb ha hn
           rw [okI_at hlt]
           simp_all [entOk, lt]
         have hg := treeOkI_false hlt hf
         rw [hg]
         refine CallEnd.here (fa ?_)
         conv => whnf
         exact ⟨rfl, rfl, rfl, rfl⟩)
      | (have hf : okI t i = true := by
           clear h1 h2 h3 hb ha hn
           rw [okI_at hlt]
           simp_all [entOk, lt]
         refine .here ⟨n - 1, by omega, ?_⟩
         refine la [0, 8, 9, 10] ?_
         conv => whnf
         refine ⟨rfl, rfl, i + 1, by omega, by omega, rfl, rfl, rfl, fun k hk => ?_⟩
         by_cases hki : k = i
         · rw [hki]; exact hf
         · exact ha k (by omega))
      | (have hf : okI t i = false := by
           have hbl : lt (t[i - 1]'(by omega)).path t[i].path = false := ‹Op.bytesLess (t[i - 1]'(by omega)).path t[i].path = false›
           rw [okI_at hlt, if_pos (by omega : 0 < i), hbl]
           simp
         have hg := treeOkI_false hlt hf
         rw [hg]
         refine CallEnd.here (fa ?_)
         conv => whnf
         exact ⟨rfl, rfl, rfl, rfl⟩)
      | exact absurd hlt (by omega)
   · repeat' first | refine Rw ⟨?_⟩ | (refine bsplit.mk (fun h => ?_) (fun h => ?_) <;> (try simp only [decide_eq_true_eq, decide_eq_false_iff_not, Bool.not_eq_true', Bool.not_eq_false', Bool.not_true, Bool.not_false, Bool.true_eq_false, Bool.false_eq_true, List.length_map] at h) <;> conv => whnf) | refine Rs ⟨?_⟩ | fail
     · exact absurd hlt (by omega)
     · have hf : treeOk t = true := treeOkI_true (by omega) fun k hk => ha k (by omega)
       rw [hf]
       exact Rf
theorem toEntS_con (es : List Ent) (hl : es.length ≤ 1048576) : Con (E m) 95 0 [.sl (es.map Ent.c)] [] (.own 0) [(0, .own 150 (es.map Ent.c))] := by
 refine con_of_cd tyOk mix Tryz.func95 rfl rfl rfl (Nat.le_of_ble_eq_true rfl) ?_
 repeat' first | refine Rw ⟨?_⟩ | (refine bsplit.mk (fun h => ?_) (fun h => ?_) <;> (try simp only [decide_eq_true_eq, decide_eq_false_iff_not, Bool.not_eq_true', Bool.not_eq_false', Bool.not_true, Bool.not_false, Bool.true_eq_false, Bool.false_eq_true, List.length_map] at h) <;> conv => whnf) | (refine ⟨es.length, by simp only [List.length_map], by simp only [List.length_map], (by unfold room; omega), Nat.le_of_ble_eq_true rfl, ?_⟩; conv => whnf) | refine Rs ⟨?_⟩ | fail
 refine Cd.loop (fun q tm S nx => ∃ (i : Nat) (xs : List (List D)), i ≤ es.length ∧ q = es.length - i ∧ tm = [(0, .sl (es.map Ent.c)), (3, .own 0), (4, .k .i64 i)] ∧ S = [(0, .own 150 xs)] ∧ nx = 1 ∧ xs = (es.take i).map Ent.c ++ List.replicate (es.length - i) [.s [], .b false, .s []]) ⟨es.length, ?_⟩ ?_
 · refine la [0, 3, 4] ?_
   conv => whnf
   refine ⟨rfl, rfl, 0, _, Nat.zero_le _, rfl, rfl, rfl, rfl, rfl⟩
 · rintro q tm S nx ⟨i, xs, hi, hq, rfl, rfl, rfl, hxs⟩
   have hxl : xs.length = es.length := by rw [hxs]; simp; omega
   by_cases hlt : i < es.length
   · have hg : xs[i]? = some [.s [], .b false, .s []] := by rw [hxs]; exact fill_get hlt
     repeat' first | refine Rw ⟨?_⟩ | (refine bsplit.mk (fun h => ?_) (fun h => ?_) <;> (try simp only [decide_eq_true_eq, decide_eq_false_iff_not, Bool.not_eq_true', Bool.not_eq_false', Bool.not_true, Bool.not_false, Bool.true_eq_false, Bool.false_eq_true, List.length_map] at h) <;> conv => whnf) | (refine Rc [] 0 rfl rfl (toEnt_con es[i]) ?_; conv => whnf) | (refine ⟨_, hg, Nat.le_of_ble_eq_true rfl, ?_⟩; conv => whnf) | refine Rs ⟨?_⟩ | fail
     · refine .here ⟨q - 1, by omega, ?_⟩
       refine la [0, 3, 4] ?_
       conv => whnf
       refine ⟨rfl, rfl, i + 1, _, by omega, by omega, rfl, rfl, rfl, (by rw [hxs]; exact fill_set hlt)⟩
     all_goals exact absurd hlt (by omega)
   · have hx : xs = es.map Ent.c := by
       rw [hxs, List.take_of_length_le (by omega)]
       have : es.length - i = 0 := by omega
       simp [this]
     subst hx
     repeat' first | refine Rw ⟨?_⟩ | (refine bsplit.mk (fun h => ?_) (fun h => ?_) <;> (try simp only [decide_eq_true_eq, decide_eq_false_iff_not, Bool.not_eq_true', Bool.not_eq_false', Bool.not_true, Bool.not_false, Bool.true_eq_false, Bool.false_eq_true, List.length_map] at h) <;> conv => whnf) | refine Rs ⟨?_⟩ | fail
     · exact absurd hlt (by omega)
     · exact Rf
theorem eqEnt_con (a b : Ent) : Con (E m) 178 0 [.agg a.c, .agg b.c] [] (.b (eqE a b)) [] := by
 refine con_of_cd tyOk mix Tryz.func178 rfl rfl rfl (Nat.le_of_ble_eq_true rfl) ?_
 repeat' first | refine Rw ⟨?_⟩ | (refine bsplit.mk (fun h => ?_) (fun h => ?_) <;> (try simp only [decide_eq_true_eq, decide_eq_false_iff_not, Bool.not_eq_true', Bool.not_eq_false', Bool.not_true, Bool.not_false, Bool.true_eq_false, Bool.false_eq_true, List.length_map] at h) <;> conv => whnf) | refine Rs ⟨?_⟩ | fail
 all_goals
  refine Rg ⟨?_⟩
  first | rfl | (simp_all [eqE]; done) | (simp [eqE] <;> (repeat' split) <;> omega) | (simp only [eqE]; repeat' split) <;> first | omega | (simp_all; done) | (simp_all; omega) | (rw [Bool.eq_iff_iff]; simp [*, eqE] <;> omega)
theorem eqEntS_con (t : List Ent) (hl : t.length ≤ 1048576) : Con (E m) 112 0 [.sl (t.map Ent.c), .sl (t.map Ent.c)] [] (.b true) [] := by
 refine con_of_cd tyOk mix Tryz.func112 rfl rfl rfl (Nat.le_of_ble_eq_true rfl) ?_
 repeat' first | refine Rw ⟨?_⟩ | (refine bsplit.mk (fun h => ?_) (fun h => ?_) <;> (try simp only [decide_eq_true_eq, decide_eq_false_iff_not, Bool.not_eq_true', Bool.not_eq_false', Bool.not_true, Bool.not_false, Bool.true_eq_false, Bool.false_eq_true, List.length_map] at h) <;> conv => whnf) | refine Rs ⟨?_⟩ | fail
 · exact absurd trivial ‹¬True›
 refine Cd.loop (fun q tm S nx => ∃ (i : Nat), i ≤ t.length ∧ q = t.length - i ∧ tm = [(0, .sl (t.map Ent.c)), (1, .sl (t.map Ent.c)), (5, .k .i64 i)] ∧ S = [] ∧ nx = 0) ⟨t.length, ?_⟩ ?_
 · refine la [0, 1, 5] ?_
   conv => whnf
   refine ⟨rfl, rfl, 0, Nat.zero_le _, rfl, rfl, rfl, rfl⟩
 · rintro q tm S nx ⟨i, hi, hq, rfl, rfl, rfl⟩
   by_cases hlt : i < t.length
   · have he := eqEnt_con (m := m) t[i] t[i]
     rw [eqE_self] at he
     repeat' first | refine Rw ⟨?_⟩ | (refine bsplit.mk (fun h => ?_) (fun h => ?_) <;> (try simp only [decide_eq_true_eq, decide_eq_false_iff_not, Bool.not_eq_true', Bool.not_eq_false', Bool.not_true, Bool.not_false, Bool.true_eq_false, Bool.false_eq_true, List.length_map] at h) <;> conv => whnf) | (refine Rc [] 0 rfl rfl (he) ?_; conv => whnf) | refine Rs ⟨?_⟩ | fail
     · refine .here ⟨q - 1, by omega, ?_⟩
       refine la [0, 1, 5] ?_
       conv => whnf
       refine ⟨rfl, rfl, i + 1, by omega, by omega, rfl, rfl, rfl⟩
     all_goals exact absurd hlt (by omega)
   · repeat' first | refine Rw ⟨?_⟩ | (refine bsplit.mk (fun h => ?_) (fun h => ?_) <;> (try simp only [decide_eq_true_eq, decide_eq_false_iff_not, Bool.not_eq_true', Bool.not_eq_false', Bool.not_true, Bool.not_false, Bool.true_eq_false, Bool.false_eq_true, List.length_map] at h) <;> conv => whnf) | refine Rs ⟨?_⟩ | fail
     · exact absurd hlt (by omega)
     · exact Rf
end Go.Proofs.YtlicaibhgcenhaaGreatDoor
namespace Go.Par
open Go.Ab
def digs (n : Nat) (acc : Bs) : Bs := if n = 0 then acc else digs (n / 10) (UInt8.ofNat (48 + n % 10) :: acc)
termination_by n
decreasing_by omega
theorem digs_zero (acc : Bs) : digs 0 acc = acc := by rw [digs]; simp
theorem digs_pos {n : Nat} (h : 0 < n) (acc : Bs) : digs n acc = digs (n / 10) (UInt8.ofNat (48 + n % 10) :: acc) := by rw [digs, if_neg (by omega)]
def markT (k : Int) : Bs := if k ≤ 0 then [109, 48] else 109 :: digs k.toNat []
def mkL {α : Type} (f : Int → α) (s k : Int) : Nat → List α
 | 0 => []
 | n + 1 => mkL f s k n ++ [f (k + s * n)]
theorem mkL_len {α : Type} (f : Int → α) (s k : Int) : ∀ n : Nat, (mkL f s k n).length = n
 | 0 => rfl
 | n + 1 => by simp [mkL, mkL_len f s k n]
theorem mkL_get {α : Type} {f : Int → α} {s k : Int} : ∀ {n i : Nat}, i < n → (mkL f s k n)[i]? = some (f (k + s * i))
 | 0, i, h => absurd h (Nat.not_lt_zero _)
 | n + 1, i, h => by
   rw [mkL]
   by_cases hi : i = n
   · subst hi
     rw [List.getElem?_append_right (by rw [mkL_len]; exact Nat.le_refl _), mkL_len]
     simp
   · rw [List.getElem?_append_left (by rw [mkL_len]; omega)]
     exact mkL_get (by omega)
def fE (k : Int) : Ent := ⟨markT k, decide ((k + 1) % 3 = 0), markT (k + 1 + 1)⟩
def fM (k : Int) : Mrk := ⟨markT k, k + 1, markT (k + 1 + 1)⟩
def fI (k : Int) : Int := k
theorem get_mid {α : Type} {A r : List α} {x : α} {i : Nat} (h : i = A.length) : (A ++ x :: r)[i]? = some x := by
 subst h; simp
theorem set_mid {α : Type} {A r : List α} {x y : α} {i : Nat} (h : i = A.length) : (A ++ x :: r).set i y = A ++ y :: r := by
 subst h; simp
theorem get_set {α : Type} {l : List α} {i : Nat} {y : α} (h : i < l.length) : (l.set i y)[i]? = some y := by simp [h]
end Go.Par
namespace Go.Proofs.YtlicaibhgcenhaaGreatDoor
open Go Go.RowKit Go.Ab Go.Par
variable {m : Int}
abbrev cI (n : Int) : List D := [.k .i64 n]
theorem markText_con (k : Int) (hk : k ≤ 100000000) : Con (E m) 61 0 [.k .i64 k] [] (.s (markT k)) [] := by
 unfold markT
 by_cases h0 : k ≤ 0
 · rw [if_pos h0]
   refine con_of_cd tyOk mix Tryz.func61 rfl rfl rfl (Nat.le_of_ble_eq_true rfl) ?_
   repeat' first | refine Ra ⟨?_⟩ | refine Rd (fun h => ⟨?_⟩) fun h => ⟨?_⟩ | refine Rb ⟨?_⟩ | fail
   exact Rf
 · rw [if_neg h0]
   refine con_of_cd tyOk mix Tryz.func61 rfl rfl rfl (Nat.le_of_ble_eq_true rfl) ?_
   repeat' first | refine Ra ⟨?_⟩ | refine Rd (fun h => ⟨?_⟩) fun h => ⟨?_⟩ | refine Rb ⟨?_⟩ | fail
   refine Cd.loop2 (fun mq tm S nx => ∃ (q : Nat) (n : Nat) (out : Bs), mq = (q) ∧ tm = [(0, .k .i64 n), (3, .s out)] ∧ S = [] ∧ nx = 0 ∧ (n ≤ q) ∧ (n + out.length ≤ 100000000) ∧ (digs k.toNat [] = digs n out)) ?_ ?_
   · obtain ⟨n, rfl⟩ : ∃ n : Nat, k = n := ⟨k.toNat, by omega⟩
     refine la [0, 3] ?_
     conv => whnf
     refine ⟨rfl, rfl, _, n, n, [], rfl, rfl, rfl, rfl, Nat.le_refl _, (by simp; omega), by simp⟩
   · rintro mq tm S nx ⟨q, n, out, hn, rfl, rfl, rfl, hq, hnb, ha⟩
     rw [ha]
     by_cases hz : n = 0
     · subst hz
       rw [digs_zero]
       repeat' first | refine Ra ⟨?_⟩ | refine Rd (fun h => ⟨?_⟩) fun h => ⟨?_⟩ | refine Rb ⟨?_⟩ | fail
       exact Rf
     · rw [digs_pos (by omega)]
       have hu : ((UInt8.ofNat (48 + n % 10)).toNat : Int) = 48 + ((n % 10 : Nat) : Int) := by
        have : (UInt8.ofNat (48 + n % 10)).toNat = (48 + n % 10) % 256 := by simp
        omega
       have e1 : (n : Int) % 10 = ((n % 10 : Nat) : Int) := by omega
       have e2 : (n : Int) / 10 = ((n / 10 : Nat) : Int) := by omega
       have hby : [[D.k .u8 (48 + ((n % 10 : Nat) : Int))]] = bytesOf [UInt8.ofNat (48 + n % 10)] := by simp only [bytesOf, List.map_cons, List.map_nil, hu]
       repeat' first | refine Ra ⟨?_⟩ | ((refine wr (by omega) (by omega) ?_; rw [e1]) <;> conv => whnf) | ((refine wq (by omega) (by omega) ?_; rw [e2]) <;> conv => whnf) | (refine wb (by omega) ?_ <;> conv => whnf) | (refine ⟨_, hby, by simp [room], ?_⟩ <;> conv => whnf) | refine Rd (fun h => ⟨?_⟩) fun h => ⟨?_⟩ | refine Rb ⟨?_⟩ | fail
       refine .here ⟨mq - 1, by omega, ?_⟩
       refine la [0, 3] ?_
       conv => whnf
       refine ⟨rfl, rfl, q - 1, n / 10, _, (by omega), rfl, rfl, rfl, by omega, (by simp; omega), rfl⟩
theorem markEntS_con (t : List Ent) (k : Int) (hk : 0 ≤ k ∧ k ≤ 10000000) (ht : t.length ≤ 1100000) : Con (E m) 117 1 [.own 0, .k .i64 k] [(0, .own 150 (t.map Ent.c))] (.k .i64 (k + 3 * t.length)) [(0, .own 150 ((mkL fE 3 k t.length).map Ent.c))] := by
 refine con_of_cd tyOk mix Tryz.func117 rfl rfl rfl (Nat.le_of_ble_eq_true rfl) ?_
 repeat' first | refine Ra ⟨?_⟩ | refine Rd (fun h => ⟨?_⟩) fun h => ⟨?_⟩ | refine Rb ⟨?_⟩ | fail
 refine Cd.loop2 (fun mq tm S nx => ∃ (i : Nat) (q : Int) (xs : List (List D)), mq = (t.length - i) ∧ tm = [(0, .own 0), (1, .k .i64 q), (5, .k .i64 i)] ∧ S = [(0, .own 150 xs)] ∧ nx = 1 ∧ (i ≤ t.length) ∧ (q = k + 3 * i) ∧ (xs = (mkL fE 3 k i).map Ent.c ++ (t.drop i).map Ent.c)) ?_ ?_
 · refine la [0, 1, 5] ?_
   conv => whnf
   refine ⟨rfl, rfl, _, 0, k, _, rfl, rfl, rfl, rfl, Nat.zero_le _, by omega, rfl⟩
 · rintro mq tm S nx ⟨i, q, xs, hn, rfl, rfl, rfl, hi, hq, hx⟩
   rcases drop_or t i hi with ⟨rfl, hd⟩ | ⟨x, r, hx', hd, hr, hlt⟩
   · rw [hd, List.map_nil, List.append_nil] at hx
     have hxl : xs.length = t.length := by rw [hx, List.length_map, mkL_len]
     rw [← hx, ← hq]
     repeat' first | refine Ra ⟨?_⟩ | (refine bf (by omega) ?_ <;> conv => whnf) | refine Rd (fun h => ⟨?_⟩) fun h => ⟨?_⟩ | refine Rb ⟨?_⟩ | fail
     exact Rf
   · rw [hd, List.map_cons] at hx
     have hAl : i = ((mkL fE 3 k i).map Ent.c).length := by rw [List.length_map, mkL_len]
     have hxl : xs.length = t.length := by
      have := congrArg List.length hd
      simp at this
      rw [hx, List.length_append, ← hAl, List.length_cons, List.length_map]; omega
     have hg : xs[i]? = some (Ent.c x) := by rw [hx]; exact get_mid hAl
     have c0 := markText_con (m := m) (q) (by omega)
     have c2 := markText_con (m := m) (q + 1 + 1) (by omega)
     repeat' first | refine Ra ⟨?_⟩ | (refine bt (by omega) ?_ <;> conv => whnf) | refine R0 c0 ⟨?_⟩ | refine R0 c2 ⟨?_⟩ | (refine ⟨i, rfl, by (try simp only [List.length_set]); omega, ?_⟩ <;> conv => whnf) | (refine ⟨_, hg, Nat.le_of_ble_eq_true rfl, ?_⟩ <;> conv => whnf) | (refine ⟨_, get_set (by (try simp only [List.length_set]); omega), Nat.le_of_ble_eq_true rfl, ?_⟩ <;> conv => whnf) | (refine wr (by omega) (by omega) ?_ <;> conv => whnf) | refine Rd (fun h => ⟨?_⟩) fun h => ⟨?_⟩ | refine Rb ⟨?_⟩ | fail
     refine .here ⟨mq - 1, by omega, ?_⟩
     refine la [0, 1, 5] ?_
     conv => whnf
     refine ⟨rfl, rfl, i + 1, q + 1 + 1 + 1, _, (by omega), rfl, rfl, rfl, by omega, by omega, ?_⟩
     rw [List.set_set, List.set_set, hx, set_mid hAl, mkL, hr, ← hq, List.map_append, List.append_assoc]
     rfl
theorem markMarkS_con (t : List Mrk) (k : Int) (hk : 0 ≤ k ∧ k ≤ 10000000) (ht : t.length ≤ 1100000) : Con (E m) 119 1 [.own 0, .k .i64 k] [(0, .own 197 (t.map Mrk.c))] (.k .i64 (k + 3 * t.length)) [(0, .own 197 ((mkL fM 3 k t.length).map Mrk.c))] := by
 refine con_of_cd tyOk mix Tryz.func119 rfl rfl rfl (Nat.le_of_ble_eq_true rfl) ?_
 repeat' first | refine Ra ⟨?_⟩ | refine Rd (fun h => ⟨?_⟩) fun h => ⟨?_⟩ | refine Rb ⟨?_⟩ | fail
 refine Cd.loop2 (fun mq tm S nx => ∃ (i : Nat) (q : Int) (xs : List (List D)), mq = (t.length - i) ∧ tm = [(0, .own 0), (1, .k .i64 q), (5, .k .i64 i)] ∧ S = [(0, .own 197 xs)] ∧ nx = 1 ∧ (i ≤ t.length) ∧ (q = k + 3 * i) ∧ (xs = (mkL fM 3 k i).map Mrk.c ++ (t.drop i).map Mrk.c)) ?_ ?_
 · refine la [0, 1, 5] ?_
   conv => whnf
   refine ⟨rfl, rfl, _, 0, k, _, rfl, rfl, rfl, rfl, Nat.zero_le _, by omega, rfl⟩
 · rintro mq tm S nx ⟨i, q, xs, hn, rfl, rfl, rfl, hi, hq, hx⟩
   rcases drop_or t i hi with ⟨rfl, hd⟩ | ⟨x, r, hx', hd, hr, hlt⟩
   · rw [hd, List.map_nil, List.append_nil] at hx
     have hxl : xs.length = t.length := by rw [hx, List.length_map, mkL_len]
     rw [← hx, ← hq]
     repeat' first | refine Ra ⟨?_⟩ | (refine bf (by omega) ?_ <;> conv => whnf) | refine Rd (fun h => ⟨?_⟩) fun h => ⟨?_⟩ | refine Rb ⟨?_⟩ | fail
     exact Rf
   · rw [hd, List.map_cons] at hx
     have hAl : i = ((mkL fM 3 k i).map Mrk.c).length := by rw [List.length_map, mkL_len]
     have hxl : xs.length = t.length := by
      have := congrArg List.length hd
      simp at this
      rw [hx, List.length_append, ← hAl, List.length_cons, List.length_map]; omega
     have hg : xs[i]? = some (Mrk.c x) := by rw [hx]; exact get_mid hAl
     have c0 := markText_con (m := m) (q) (by omega)
     have c2 := markText_con (m := m) (q + 1 + 1) (by omega)
     repeat' first | refine Ra ⟨?_⟩ | (refine bt (by omega) ?_ <;> conv => whnf) | refine R0 c0 ⟨?_⟩ | refine R0 c2 ⟨?_⟩ | (refine ⟨i, rfl, by (try simp only [List.length_set]); omega, ?_⟩ <;> conv => whnf) | (refine ⟨_, hg, Nat.le_of_ble_eq_true rfl, ?_⟩ <;> conv => whnf) | (refine ⟨_, get_set (by (try simp only [List.length_set]); omega), Nat.le_of_ble_eq_true rfl, ?_⟩ <;> conv => whnf) | refine Rd (fun h => ⟨?_⟩) fun h => ⟨?_⟩ | refine Rb ⟨?_⟩ | fail
     refine .here ⟨mq - 1, by omega, ?_⟩
     refine la [0, 1, 5] ?_
     conv => whnf
     refine ⟨rfl, rfl, i + 1, q + 1 + 1 + 1, _, (by omega), rfl, rfl, rfl, by omega, by omega, ?_⟩
     rw [List.set_set, List.set_set, hx, set_mid hAl, mkL, hr, ← hq, List.map_append, List.append_assoc]
     rfl
theorem markIntS_con (t : List Int) (k : Int) (hk : 0 ≤ k ∧ k ≤ 10000000) (ht : t.length ≤ 1100000) : Con (E m) 59 1 [.own 0, .k .i64 k] [(0, .own 3 (t.map cI))] (.k .i64 (k + 1 * t.length)) [(0, .own 3 ((mkL fI 1 k t.length).map cI))] := by
 refine con_of_cd tyOk mix Tryz.func59 rfl rfl rfl (Nat.le_of_ble_eq_true rfl) ?_
 repeat' first | refine Ra ⟨?_⟩ | refine Rd (fun h => ⟨?_⟩) fun h => ⟨?_⟩ | refine Rb ⟨?_⟩ | fail
 refine Cd.loop2 (fun mq tm S nx => ∃ (i : Nat) (q : Int) (xs : List (List D)), mq = (t.length - i) ∧ tm = [(0, .own 0), (1, .k .i64 q), (5, .k .i64 i)] ∧ S = [(0, .own 3 xs)] ∧ nx = 1 ∧ (i ≤ t.length) ∧ (q = k + 1 * i) ∧ (xs = (mkL fI 1 k i).map cI ++ (t.drop i).map cI)) ?_ ?_
 · refine la [0, 1, 5] ?_
   conv => whnf
   refine ⟨rfl, rfl, _, 0, k, _, rfl, rfl, rfl, rfl, Nat.zero_le _, by omega, rfl⟩
 · rintro mq tm S nx ⟨i, q, xs, hn, rfl, rfl, rfl, hi, hq, hx⟩
   rcases drop_or t i hi with ⟨rfl, hd⟩ | ⟨x, r, hx', hd, hr, hlt⟩
   · rw [hd, List.map_nil, List.append_nil] at hx
     have hxl : xs.length = t.length := by rw [hx, List.length_map, mkL_len]
     rw [← hx, ← hq]
     repeat' first | refine Ra ⟨?_⟩ | (refine bf (by omega) ?_ <;> conv => whnf) | refine Rd (fun h => ⟨?_⟩) fun h => ⟨?_⟩ | refine Rb ⟨?_⟩ | fail
     exact Rf
   · rw [hd, List.map_cons] at hx
     have hAl : i = ((mkL fI 1 k i).map cI).length := by rw [List.length_map, mkL_len]
     have hxl : xs.length = t.length := by
      have := congrArg List.length hd
      simp at this
      rw [hx, List.length_append, ← hAl, List.length_cons, List.length_map]; omega
     have hg : xs[i]? = some (cI x) := by rw [hx]; exact get_mid hAl
     repeat' first | refine Ra ⟨?_⟩ | (refine bt (by omega) ?_ <;> conv => whnf) | (refine ⟨i, rfl, by (try simp only [List.length_set]); omega, ?_⟩ <;> conv => whnf) | (refine ⟨_, hg, Nat.le_of_ble_eq_true rfl, ?_⟩ <;> conv => whnf) | (refine ⟨_, get_set (by (try simp only [List.length_set]); omega), Nat.le_of_ble_eq_true rfl, ?_⟩ <;> conv => whnf) | refine Rd (fun h => ⟨?_⟩) fun h => ⟨?_⟩ | refine Rb ⟨?_⟩ | fail
     refine .here ⟨mq - 1, by omega, ?_⟩
     refine la [0, 1, 5] ?_
     conv => whnf
     refine ⟨rfl, rfl, i + 1, q + 1, _, (by omega), rfl, rfl, rfl, by omega, by omega, ?_⟩
     rw [hx, set_mid hAl, mkL, hr, ← hq, List.map_append, List.append_assoc]
     rfl
theorem iOpOk_con (o : Opn) (h1 : o.path.length ≤ 1073741824) (h2 : o.tgt.length ≤ 1073741824) (h3 : o.data.length ≤ 1073741824) : Con (E m) 206 0 [.agg o.c] [] (.b (opOk o)) [] := by
 have c1 := iPathOk_con (m := m) o.path h1
 have c2 := iPathOk_con (m := m) o.tgt h2
 have c3 := iData_con (m := m) o.data h3
 refine con_of_cd tyOk mix Tryz.func206 rfl rfl rfl (Nat.le_of_ble_eq_true rfl) ?_
 repeat' first | refine Rw ⟨?_⟩ | (refine bsplit.mk (fun h => ?_) (fun h => ?_) <;> (try simp only [decide_eq_true_eq, decide_eq_false_iff_not, Bool.not_eq_true', Bool.not_eq_false', Bool.not_true, Bool.not_false, Bool.true_eq_false, Bool.false_eq_true, List.length_map] at h) <;> conv => whnf) | (refine Rc [] 0 rfl rfl (c1) ?_; conv => whnf) | (refine Rc [] 0 rfl rfl (c2) ?_; conv => whnf) | (refine Rc [] 0 rfl rfl (c3) ?_; conv => whnf) | refine Rs ⟨?_⟩ | fail
 all_goals
  refine Rg ⟨?_⟩
  first | rfl | (simp_all [opOk]; done) | (simp [opOk] <;> (repeat' split) <;> omega) | (simp only [opOk]; repeat' split) <;> first | omega | (simp_all; done) | (simp_all; omega) | (rw [Bool.eq_iff_iff]; simp [*, opOk] <;> omega)
theorem sOpOk_con (o : Opn) (h1 : o.path.length ≤ 1073741824) (h2 : o.tgt.length ≤ 1073741824) (h3 : o.data.length ≤ 1073741824) : Con (E m) 124 0 [.agg o.c] [] (.b (opOk o)) [] := by
 have c1 := sPathOk_con (m := m) o.path h1
 have c2 := sPathOk_con (m := m) o.tgt h2
 have c3 := sData_con (m := m) o.data h3
 refine con_of_cd tyOk mix Tryz.func124 rfl rfl rfl (Nat.le_of_ble_eq_true rfl) ?_
 repeat' first | refine Rw ⟨?_⟩ | (refine bsplit.mk (fun h => ?_) (fun h => ?_) <;> (try simp only [decide_eq_true_eq, decide_eq_false_iff_not, Bool.not_eq_true', Bool.not_eq_false', Bool.not_true, Bool.not_false, Bool.true_eq_false, Bool.false_eq_true, List.length_map] at h) <;> conv => whnf) | (refine Rc [] 0 rfl rfl (c1) ?_; conv => whnf) | (refine Rc [] 0 rfl rfl (c2) ?_; conv => whnf) | (refine Rc [] 0 rfl rfl (c3) ?_; conv => whnf) | refine Rs ⟨?_⟩ | fail
 all_goals
  refine Rg ⟨?_⟩
  first | rfl | (simp_all [opOk_eq]; done) | (simp [opOk_eq] <;> (repeat' split) <;> omega) | (simp only [opOk_eq]; repeat' split) <;> first | omega | (simp_all; done) | (simp_all; omega) | (rw [Bool.eq_iff_iff]; simp [*, opOk_eq] <;> omega)
theorem lOp_shp {d : D} (h : ShpV Tryz.prog 38 d) : ∃ o : Opn, d = .agg o.c ∧ o.path.length ≤ 9223372036854775807 ∧ o.tgt.length ≤ 9223372036854775807 ∧ o.data.length ≤ 9223372036854775807 := by
 obtain ⟨ds, rfl, h1⟩ := h.struct Tryz.underlying38
 have h2 : ShpF Tryz.prog [3, 9, 9, 9] ds := h1
 obtain ⟨a, _, rfl, ha, b, _, rfl, hb, c, _, rfl, hc, d, _, rfl, hd, rfl⟩ := h2
 obtain ⟨x, rfl, _⟩ := ha.int_inv Tryz.underlying3
 obtain ⟨p, rfl, hp⟩ := hb.str_inv Tryz.underlying9
 obtain ⟨q, rfl, hq⟩ := hc.str_inv Tryz.underlying9
 obtain ⟨r, rfl, hr⟩ := hd.str_inv Tryz.underlying9
 exact ⟨⟨x, p, q, r⟩, rfl, hp, hq, hr⟩
theorem toOp_con (o : Opn) : Con (E m) 14 0 [.agg o.c] [] (.agg o.c) [] := by
 refine con_of_cd tyOk mix Tryz.func14 rfl rfl rfl (Nat.le_of_ble_eq_true rfl) ?_
 repeat' first | refine Ra ⟨?_⟩ | refine Rd (fun h => ⟨?_⟩) fun h => ⟨?_⟩ | refine Rb ⟨?_⟩ | fail
 refine Rg ⟨?_⟩
 first | rfl | (simp_all [Opn.c]; done) | (simp [Opn.c] <;> (repeat' split) <;> omega) | (simp only [Opn.c]; repeat' split) <;> first | omega | (simp_all; done) | (simp_all; omega) | (rw [Bool.eq_iff_iff]; simp [*, Opn.c] <;> omega)
theorem szOp_con (o : Opn) (n : Int) (hn : 0 ≤ n ∧ n ≤ 1048576) (hp : o.path.length ≤ 9223372036854775807) (ht : o.tgt.length ≤ 9223372036854775807) (hd : o.data.length ≤ 9223372036854775807) :
   Con (E m) 11 0 [.agg o.c, .k .i64 n] [] (.k .i64 (less3 n o.path.length o.tgt.length o.data.length)) [] := by
 refine con_of_cd tyOk mix Tryz.func11 rfl rfl rfl (Nat.le_of_ble_eq_true rfl) ?_
 repeat' first | refine Ra ⟨?_⟩ | refine Rd (fun h => ⟨?_⟩) fun h => ⟨?_⟩ | refine Rb ⟨?_⟩ | fail
 all_goals
  refine Rg ⟨?_⟩
  first | rfl | (simp_all [less3]; done) | (simp [less3] <;> (repeat' split) <;> omega) | (simp only [less3]; repeat' split) <;> first | omega | (simp_all; done) | (simp_all; omega) | (rw [Bool.eq_iff_iff]; simp [*, less3] <;> omega)
theorem eqOp_con (a b : Opn) : Con (E m) 56 0 [.agg a.c, .agg b.c] [] (.b (eqO a b)) [] := by
 refine con_of_cd tyOk mix Tryz.func56 rfl rfl rfl (Nat.le_of_ble_eq_true rfl) ?_
 repeat' first | refine Ra ⟨?_⟩ | refine Rd (fun h => ⟨?_⟩) fun h => ⟨?_⟩ | refine Rb ⟨?_⟩ | fail
 all_goals
  refine Rg ⟨?_⟩
  first | rfl | (simp_all [eqO]; done) | (simp [eqO] <;> (repeat' split) <;> omega) | (simp only [eqO]; repeat' split) <;> first | omega | (simp_all; done) | (simp_all; omega) | (rw [Bool.eq_iff_iff]; simp [*, eqO] <;> omega)
end Go.Proofs.YtlicaibhgcenhaaGreatDoor
