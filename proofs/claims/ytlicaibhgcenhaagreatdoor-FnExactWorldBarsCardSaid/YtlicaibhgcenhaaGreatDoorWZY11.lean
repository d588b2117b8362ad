/- Texts of this claim, set close: lemmas and contracts. -/
import Derived.Test.YtlicaibhgcenhaaGreatDoorWZY10
import Derived.Test.YtlicaibhgcenhaaGreatDoorWZY6
import Derived.Test.YtlicaibhgcenhaaGreatDoorWZY3
set_option linter.unusedSimpArgs false
set_option linter.unusedVariables false
set_option maxHeartbeats 1000000
set_option maxRecDepth 10000
namespace Go.Proofs.YtlicaibhgcenhaaGreatDoor
open Go Go.RowKit Go.Ab Go.Par
variable {m : Int}
def hasPre (s p : Bs) : Bool := decide (p.length ≤ s.length) && decide (s.take p.length = p)
theorem liteHasPrefix_con (s p : Bs) (hs : s.length ≤ 1073741824) (hp : p.length ≤ 1073741824) : Con (E m) 300 0 [.s s, .s p] [] (.b (hasPre s p)) [] := by
 refine con_of_cd tyOk mix Tryz.func300 rfl rfl rfl (Nat.le_of_ble_eq_true rfl) ?_
 repeat' first | refine Ra ⟨?_⟩ | refine Rd (fun h => ⟨?_⟩) fun h => ⟨?_⟩ | refine Rb ⟨?_⟩ | fail
 all_goals
  refine Rg ⟨?_⟩
  first | rfl | (simp_all [hasPre]; done) | (simp [hasPre] <;> (repeat' split) <;> omega) | (simp only [hasPre]; repeat' split) <;> first | omega | (simp_all; done) | (simp_all; omega) | (rw [Bool.eq_iff_iff]; simp [*, hasPre] <;> omega)
theorem hasPrefix_con (s p : Bs) (hs : s.length ≤ 1073741824) (hp : p.length ≤ 1073741824) : Con (E m) 285 0 [.s s, .s p] [] (.b (hasPre s p)) [] := by
 refine con_of_cd tyOk mix Tryz.func285 rfl rfl rfl (Nat.le_of_ble_eq_true rfl) ?_
 repeat' first | refine Ra ⟨?_⟩ | refine R0 (liteHasPrefix_con s p hs hp) ⟨?_⟩ | refine Rd (fun h => ⟨?_⟩) fun h => ⟨?_⟩ | refine Rb ⟨?_⟩ | fail
 all_goals
  refine Rg ⟨?_⟩
  first | rfl | (simp_all [hasPre]; done) | (simp [hasPre] <;> (repeat' split) <;> omega) | (simp only [hasPre]; repeat' split) <;> first | omega | (simp_all; done) | (simp_all; omega) | (rw [Bool.eq_iff_iff]; simp [*, hasPre] <;> omega)
def mrkD : Option Mrk → D
 | some e => .tup [.agg e.c, .b true]
 | none => .tup [.agg [.s [], .k .i64 0, .s []], .b false]
theorem iMarkAt_con (l : List Mrk) (p : Bs) (hl : l.length ≤ 1073741824) : Con (E m) 280 0 [.sl (l.map Mrk.c), .s p] [] (mrkD (markAt l p)) [] := by
 refine con_of_cd tyOk mix Tryz.func280 rfl rfl rfl (Nat.le_of_ble_eq_true rfl) ?_
 repeat' first | refine Ra ⟨?_⟩ | refine Rd (fun h => ⟨?_⟩) fun h => ⟨?_⟩ | refine Rb ⟨?_⟩ | fail
 refine Cd.loop2 (fun mq tm S nx => ∃ (i : Nat), mq = (l.length - i) ∧ tm = [(1, .s p), (4, .bp 0 0), (8, .sl (l.map Mrk.c)), (9, .k .i64 (l.map Mrk.c).length), (10, .k .i64 i)] ∧ S = [(0, .box 197 [.s [], .k .i64 0, .s []])] ∧ nx = 1 ∧ (i ≤ l.length) ∧ (markAt l p = markAt (l.drop i) p)) ?_ ?_
 · refine la [1, 4, 8, 9, 10] ?_
   conv => whnf
   refine ⟨rfl, rfl, _, 0, rfl, rfl, rfl, rfl, Nat.zero_le _, rfl⟩
 · rintro mq tm S nx ⟨i, hn, rfl, rfl, rfl, hi, ha⟩
   rcases drop_or l i hi with ⟨rfl, hd⟩ | ⟨x, r, hx, hd, hr, hlt⟩
   · rw [hd] at ha
     rw [ha]
     repeat' first | refine Ra ⟨?_⟩ | refine Rd (fun h => ⟨?_⟩) fun h => ⟨?_⟩ | refine Rb ⟨?_⟩ | fail
     exact Rf
   · rw [hd] at ha
     repeat' first | refine Ra ⟨?_⟩ | refine Rd (fun h => ⟨?_⟩) fun h => ⟨?_⟩ | refine Rb ⟨?_⟩ | fail
     · have he : markAt l p = some x := by rw [ha]; simp [markAt, *]
       rw [he]
       exact Rf
     · refine .here ⟨mq - 1, by omega, ?_⟩
       refine la [1, 4, 8, 9, 10] ?_
       conv => whnf
       refine ⟨rfl, rfl, i + 1, (by omega), rfl, rfl, rfl, by omega, (by rw [ha, hr]; simp [markAt, *])⟩
theorem under_pre (s d : Bs) (hd : d ≠ [47]) : under s d = hasPre s (d ++ [47]) := by
 unfold under hasPre
 rw [Bool.eq_iff_iff]
 simp only [hd, decide_false, Bool.false_or, Bool.and_eq_true, decide_eq_true_eq, List.length_append, List.length_cons, List.length_nil]
 constructor
 · rintro ⟨⟨h1, h2⟩, h3⟩
   exact ⟨by omega, by rw [take_succ h3, h2]⟩
 · rintro ⟨h1, h2⟩
   have hlt : d.length < s.length := by omega
   have h3 : s[d.length]? = some s[d.length] := List.getElem?_eq_getElem hlt
   rw [Nat.zero_add, take_succ h3] at h2
   have h4 := List.append_inj h2 (by simp; omega)
   exact ⟨⟨hlt, h4.1⟩, by rw [h3]; simpa using h4.2⟩
theorem iUnder_con (s d : Bs) (hs : s.length ≤ 1073741823) (hd : d.length ≤ 1073741823) : Con (E m) 244 0 [.s s, .s d] [] (.b (pathUnder s d)) [] := by
 have c1 := iPathOk_con (m := m) s (by omega)
 have c2 := iPathOk_con (m := m) d (by omega)
 have c3 := hasPrefix_con (m := m) s (d ++ [47]) (by omega) (by simp; omega)
 by_cases hr : d = [47]
 · subst hr
   refine con_of_cd tyOk mix Tryz.func244 rfl rfl rfl (Nat.le_of_ble_eq_true rfl) ?_
   repeat' first | refine Ra ⟨?_⟩ | refine R0 c1 ⟨?_⟩ | refine Rd (fun h => ⟨?_⟩) fun h => ⟨?_⟩ | refine Rb ⟨?_⟩ | fail
   all_goals
    refine Rg ⟨?_⟩
    first | rfl | (simp_all [pathUnder, under]; done) | (simp [pathUnder, under] <;> (repeat' split) <;> omega) | (simp only [pathUnder, under]; repeat' split) <;> first | omega | (simp_all; done) | (simp_all; omega) | (rw [Bool.eq_iff_iff]; simp [*, pathUnder, under] <;> omega)
 · rw [← under_pre s d hr] at c3
   refine con_of_cd tyOk mix Tryz.func244 rfl rfl rfl (Nat.le_of_ble_eq_true rfl) ?_
   repeat' first | refine Ra ⟨?_⟩ | refine R0 c1 ⟨?_⟩ | refine R0 c2 ⟨?_⟩ | refine R0 c3 ⟨?_⟩ | refine Rd (fun h => ⟨?_⟩) fun h => ⟨?_⟩ | refine Rb ⟨?_⟩ | fail
   all_goals
    refine Rg ⟨?_⟩
    first | rfl | (simp_all [pathUnder]; done) | (simp [pathUnder] <;> (repeat' split) <;> omega) | (simp only [pathUnder]; repeat' split) <;> first | omega | (simp_all; done) | (simp_all; omega) | (rw [Bool.eq_iff_iff]; simp [*, pathUnder] <;> omega)
theorem iIsDir_con (x : Mrk) : Con (E m) 282 0 [.agg x.c] [] (.b (isDirM x)) [] := by
 refine con_of_cd tyOk mix Tryz.func282 rfl rfl rfl (Nat.le_of_ble_eq_true rfl) ?_
 repeat' first | refine Ra ⟨?_⟩ | refine Rd (fun h => ⟨?_⟩) fun h => ⟨?_⟩ | refine Rb ⟨?_⟩ | fail
 all_goals
  refine Rg ⟨?_⟩
  first | rfl | (simp_all [isDirM]; done) | (simp [isDirM] <;> (repeat' split) <;> omega) | (simp only [isDirM]; repeat' split) <;> first | omega | (simp_all; done) | (simp_all; omega) | (rw [Bool.eq_iff_iff]; simp [*, isDirM] <;> omega)
theorem iMarkOk_con (x : Mrk) (h1 : x.path.length ≤ 1073741823) (h2 : x.data.length ≤ 1073741823) : Con (E m) 306 0 [.agg x.c] [] (.b (markOk x)) [] := by
 have c1 := iPathOk_con (m := m) x.path (by omega)
 have c2 := iData_con (m := m) x.data (by omega)
 refine con_of_cd tyOk mix Tryz.func306 rfl rfl rfl (Nat.le_of_ble_eq_true rfl) ?_
 repeat' first | refine Ra ⟨?_⟩ | refine R0 c1 ⟨?_⟩ | refine R0 c2 ⟨?_⟩ | refine Rd (fun h => ⟨?_⟩) fun h => ⟨?_⟩ | refine Rb ⟨?_⟩ | fail
 all_goals
  refine Rg ⟨?_⟩
  first | rfl | (simp_all [markOk]; done) | (simp [markOk] <;> (repeat' split) <;> omega) | (simp only [markOk]; repeat' split) <;> first | omega | (simp_all; done) | (simp_all; omega) | (rw [Bool.eq_iff_iff]; simp [*, markOk] <;> omega)
theorem iBare_con (l : List Mrk) (p : Bs) (hl : l.length ≤ 1073741824) (hp : p.length ≤ 1073741823) (hb : ∀ x ∈ l, x.path.length ≤ 1073741823) : Con (E m) 270 0 [.sl (l.map Mrk.c), .s p] [] (.b (bareI l p)) [] := by
 refine con_of_cd tyOk mix Tryz.func270 rfl rfl rfl (Nat.le_of_ble_eq_true rfl) ?_
 repeat' first | refine Ra ⟨?_⟩ | refine Rd (fun h => ⟨?_⟩) fun h => ⟨?_⟩ | refine Rb ⟨?_⟩ | fail
 refine Cd.loop2 (fun mq tm S nx => ∃ (i : Nat), mq = (l.length - i) ∧ tm = [(1, .s p), (7, .sl (l.map Mrk.c)), (8, .k .i64 (l.map Mrk.c).length), (9, .k .i64 i)] ∧ S = [] ∧ nx = 0 ∧ (i ≤ l.length) ∧ (bareI l p = bareI (l.drop i) p)) ?_ ?_
 · refine la [1, 7, 8, 9] ?_
   conv => whnf
   refine ⟨rfl, rfl, _, 0, rfl, rfl, rfl, rfl, Nat.zero_le _, rfl⟩
 · rintro mq tm S nx ⟨i, hn, rfl, rfl, rfl, hi, ha⟩
   rcases drop_or l i hi with ⟨rfl, hd⟩ | ⟨x, r, hx, hd, hr, hlt⟩
   · rw [hd] at ha
     rw [ha]
     repeat' first | refine Ra ⟨?_⟩ | refine Rd (fun h => ⟨?_⟩) fun h => ⟨?_⟩ | refine Rb ⟨?_⟩ | fail
     exact Rf
   · rw [hd] at ha
     have hbx := hb x (List.mem_of_getElem? hx)
     have c1 := iUnder_con (m := m) p x.path hp hbx
     repeat' first | refine Ra ⟨?_⟩ | refine R0 c1 ⟨?_⟩ | refine Rd (fun h => ⟨?_⟩) fun h => ⟨?_⟩ | refine Rb ⟨?_⟩ | fail
     all_goals first
      | (refine RoundEnd.here ⟨mq - 1, by omega, ?_⟩
         refine la [1, 7, 8, 9] ?_
         conv => whnf
         refine ⟨rfl, rfl, i + 1, (by omega), rfl, rfl, rfl, by omega, (by rw [ha, hr]; simp [bareI, *])⟩)
      | (refine CallEnd.here (fa ?_)
         conv => whnf
         (try rw [ha])
         first | exact ⟨rfl, rfl, rfl, rfl⟩ | refine ⟨rfl, rfl, congrArg some (congrArg D.s ?_), rfl⟩ | refine ⟨rfl, rfl, congrArg some (congrArg D.b ?_), rfl⟩ | refine ⟨rfl, rfl, congrArg some (congrArg (D.k _) ?_), rfl⟩ | refine ⟨rfl, rfl, congrArg some ?_, rfl⟩
         all_goals first | rfl | (simp_all [bareI]; done) | (simp [bareI] <;> (repeat' split) <;> omega))
set_option maxHeartbeats 1000000 in
theorem iLayerOk_con (l : List Mrk) (hb : ∀ e ∈ l, e.path.length ≤ 1073741823 ∧ e.data.length ≤ 1073741823) : Con (E m) 268 0 [.sl (l.map Mrk.c)] [] (.b (layerOk l)) [] := by
 refine con_of_cd tyOk mix Tryz.func268 rfl rfl rfl (Nat.le_of_ble_eq_true rfl) ?_
 repeat' first | refine Ra ⟨?_⟩ | refine Rd (fun h => ⟨?_⟩) fun h => ⟨?_⟩ | refine Rb ⟨?_⟩ | fail
 · have hf : layerOk l = false := by
     have : ¬ l.length ≤ 32 := by omega
     simp [layerOk, this]
   rw [hf]
   exact Rf
 refine Cd.loop2 (fun mq tm S nx => ∃ (i : Nat), mq = (l.length - i) ∧ tm = [(0, .sl (l.map Mrk.c)), (11, .sl (l.map Mrk.c)), (12, .k .i64 (l.map Mrk.c).length), (13, .k .i64 i)] ∧ S = [] ∧ nx = 0 ∧ (i ≤ l.length) ∧ (∀ k, k < i → okLI l k = true)) ?_ ?_
 · refine la [0, 11, 12, 13] ?_
   conv => whnf
   refine ⟨rfl, rfl, _, 0, rfl, rfl, rfl, rfl, Nat.zero_le _, fun k h => absurd h (Nat.not_lt_zero _)⟩
 · rintro mq tm S nx ⟨i, hn, rfl, rfl, rfl, hi, ha⟩
   by_cases hlt : i < l.length
   · have hq := hb l[i] (List.getElem_mem hlt)
     have h1 := iMarkOk_con (m := m) l[i] hq.1 hq.2
     have h2 := iUp_con (m := m) l[i].path (by omega)
     have h3 := iMarkAt_con (m := m) l (pathUp l[i].path) (by omega)
     have h4 := iBare_con (m := m) l l[i].path (by omega) hq.1 (fun x hx => (hb x hx).1)
     have hin : inM l l[i].path = (decide (pathUp l[i].path = [47]) || isDirMO (markAt l (pathUp l[i].path))) := rfl
     cases hm : markAt l (pathUp l[i].path)
     all_goals
      rw [hm] at h3 hin
      repeat' first | refine Ra ⟨?_⟩ | refine R0 h1 ⟨?_⟩ | refine R0 h2 ⟨?_⟩ | refine R0 h3 ⟨?_⟩ | refine R0 h4 ⟨?_⟩ | refine R0 (iIsDir_con _) ⟨?_⟩ | (refine ⟨i - 1, _, by omega, map_get (by omega), rfl, ?_⟩ <;> conv => whnf) | refine Rd (fun h => ⟨?_⟩) fun h => ⟨?_⟩ | refine Rb ⟨?_⟩ | fail
      all_goals first
       | (have hf : okLI l i = false := by
            clear h1 h2 h3 h4 hb ha hn
            rw [okLI_at' hlt, hin]
            try have hi0 : 0 < i := by omega
            try have hi0 : i = 0 := by omega
            simp_all [lt, isDirMO]
          have hg := layerOkI_false hlt hf
          rw [hg]
          refine CallEnd.here (fa ?_)
          conv => whnf
          exact ⟨rfl, rfl, rfl, rfl⟩)
       | (have hf : okLI l i = true := by
            clear h1 h2 h3 h4 hb ha hn
            rw [okLI_at' hlt, hin]
            try have hi0 : 0 < i := by omega
            try have hi0 : i = 0 := by omega
            simp_all [lt, isDirMO]
          refine .here ⟨mq - 1, by omega, ?_⟩
          refine la [0, 11, 12, 13] ?_
          conv => whnf
          refine ⟨rfl, rfl, i + 1, (by omega), rfl, rfl, rfl, by omega, all_lt ha hf⟩)
   · repeat' first | refine Ra ⟨?_⟩ | refine Rd (fun h => ⟨?_⟩) fun h => ⟨?_⟩ | refine Rb ⟨?_⟩ | fail
     have hf : layerOk l = true := layerOkI_true (by omega) fun k hk => ha k (by omega)
     rw [hf]
     exact Rf
theorem sl1Under_con (s d : Bs) (hs : s.length ≤ 1073741824) (hd : d.length ≤ 1073741824) : Con (E m) 297 0 [.s s, .s d] [] (.b (under s d)) [] := by
 cases hx : s[d.length]? with
 | none =>
   have hn := List.getElem?_eq_none_iff.1 hx
   refine con_of_cd tyOk mix Tryz.func297 rfl rfl rfl (Nat.le_of_ble_eq_true rfl) ?_
   repeat' first | refine Ra ⟨?_⟩ | refine Rd (fun h => ⟨?_⟩) fun h => ⟨?_⟩ | refine Rb ⟨?_⟩ | fail
   all_goals
    refine Rg ⟨?_⟩
    first | rfl | (simp_all [under]; done) | (simp [under] <;> (repeat' split) <;> omega) | (simp only [under]; repeat' split) <;> first | omega | (simp_all; done) | (simp_all; omega) | (rw [Bool.eq_iff_iff]; simp [*, under] <;> omega)
 | some c =>
   have hn := (List.getElem?_eq_some_iff.1 hx).1
   refine con_of_cd tyOk mix Tryz.func297 rfl rfl rfl (Nat.le_of_ble_eq_true rfl) ?_
   repeat' first | refine Ra ⟨?_⟩ | refine Rd (fun h => ⟨?_⟩) fun h => ⟨?_⟩ | refine Rb ⟨?_⟩ | fail
   all_goals
    refine Rg ⟨?_⟩
    first | rfl | (simp_all [under, c47]; done) | (simp [under, c47] <;> (repeat' split) <;> omega) | (simp only [under, c47]; repeat' split) <;> first | omega | (simp_all; done) | (simp_all; omega) | (rw [Bool.eq_iff_iff]; simp [*, under, c47] <;> omega)
theorem sl3Find_con (l : List Mrk) (p : Bs) (hl : l.length ≤ 1073741824) : Con (E m) 322 0 [.sl (l.map Mrk.c), .s p] [] (.k .i64 (markIx l p)) [] := by
 refine con_of_cd tyOk mix Tryz.func322 rfl rfl rfl (Nat.le_of_ble_eq_true rfl) ?_
 repeat' first | refine Ra ⟨?_⟩ | refine Rd (fun h => ⟨?_⟩) fun h => ⟨?_⟩ | refine Rb ⟨?_⟩ | fail
 refine Cd.loop2 (fun mq tm S nx => ∃ (i : Nat), mq = (l.length - i) ∧ tm = [(0, .sl (l.map Mrk.c)), (1, .s p), (5, .k .i64 i)] ∧ S = [] ∧ nx = 0 ∧ (i ≤ l.length) ∧ (∀ k, k < i → ∀ e, l[k]? = some e → e.path ≠ p)) ?_ ?_
 · refine la [0, 1, 5] ?_
   conv => whnf
   refine ⟨rfl, rfl, _, 0, rfl, rfl, rfl, rfl, Nat.zero_le _, fun k h => absurd h (Nat.not_lt_zero _)⟩
 · rintro mq tm S nx ⟨i, hn, rfl, rfl, rfl, hi, ha⟩
   rcases drop_or l i hi with ⟨rfl, hd⟩ | ⟨x, r, hx, hd, hr, hlt⟩
   · repeat' first | refine Ra ⟨?_⟩ | refine Rd (fun h => ⟨?_⟩) fun h => ⟨?_⟩ | refine Rb ⟨?_⟩ | fail
     have he : markIx l p = -1 := markIx_none fun k e h => ha k (List.getElem?_eq_some_iff.1 h).1 e h
     rw [he]
     exact Rf
   · repeat' first | refine Ra ⟨?_⟩ | refine Rd (fun h => ⟨?_⟩) fun h => ⟨?_⟩ | refine Rb ⟨?_⟩ | fail
     · have he : markIx l p = i := markIx_at hx ‹_› fun k e h1 h2 => ha k h1 e h2
       rw [he]
       exact Rf
     · refine .here ⟨mq - 1, by omega, ?_⟩
       refine la [0, 1, 5] ?_
       conv => whnf
       refine ⟨rfl, rfl, i + 1, (by omega), rfl, rfl, rfl, by omega, all_lt ha (fun e h => by rw [hx] at h; cases h; assumption)⟩
theorem sl3Kind_con (l : List Mrk) (p : Bs) (hl : l.length ≤ 1073741824) : Con (E m) 296 0 [.sl (l.map Mrk.c), .s p] [] (.k .i64 (kindAt l p)) [] := by
 have h1 := sl3Find_con (m := m) l p hl
 rcases markIx_or l p with ⟨i, hx, hi, he⟩ | ⟨hx, he⟩
 · rw [hx] at h1
   have hk : kindAt l p = l[i].kind := by simp [kindAt, he]
   rw [hk]
   refine con_of_cd tyOk mix Tryz.func296 rfl rfl rfl (Nat.le_of_ble_eq_true rfl) ?_
   repeat' first | refine Ra ⟨?_⟩ | refine R0 h1 ⟨?_⟩ | refine Rd (fun h => ⟨?_⟩) fun h => ⟨?_⟩ | refine Rb ⟨?_⟩ | fail
   exact Rf
 · rw [hx] at h1
   have hk : kindAt l p = 0 := by simp [kindAt, he]
   rw [hk]
   refine con_of_cd tyOk mix Tryz.func296 rfl rfl rfl (Nat.le_of_ble_eq_true rfl) ?_
   repeat' first | refine Ra ⟨?_⟩ | refine R0 h1 ⟨?_⟩ | refine Rd (fun h => ⟨?_⟩) fun h => ⟨?_⟩ | refine Rb ⟨?_⟩ | fail
   exact Rf
theorem sl3Bare_con (l : List Mrk) (p : Bs) (hl : l.length ≤ 1073741824) (hp : p.length ≤ 1073741823) (hb : ∀ x ∈ l, x.path.length ≤ 1073741823) : Con (E m) 253 0 [.sl (l.map Mrk.c), .s p] [] (.b (bare l p)) [] := by
 refine con_of_cd tyOk mix Tryz.func253 rfl rfl rfl (Nat.le_of_ble_eq_true rfl) ?_
 repeat' first | refine Ra ⟨?_⟩ | refine Rd (fun h => ⟨?_⟩) fun h => ⟨?_⟩ | refine Rb ⟨?_⟩ | fail
 refine Cd.loop2 (fun mq tm S nx => ∃ (i : Nat), mq = (l.length - i) ∧ tm = [(0, .sl (l.map Mrk.c)), (1, .s p), (5, .k .i64 i)] ∧ S = [] ∧ nx = 0 ∧ (i ≤ l.length) ∧ (bare l p = bare (l.drop i) p)) ?_ ?_
 · refine la [0, 1, 5] ?_
   conv => whnf
   refine ⟨rfl, rfl, _, 0, rfl, rfl, rfl, rfl, Nat.zero_le _, rfl⟩
 · rintro mq tm S nx ⟨i, hn, rfl, rfl, rfl, hi, ha⟩
   rcases drop_or l i hi with ⟨rfl, hd⟩ | ⟨x, r, hx, hd, hr, hlt⟩
   · rw [hd] at ha
     rw [ha]
     repeat' first | refine Ra ⟨?_⟩ | refine Rd (fun h => ⟨?_⟩) fun h => ⟨?_⟩ | refine Rb ⟨?_⟩ | fail
     exact Rf
   · rw [hd] at ha
     have hbx := hb x (List.mem_of_getElem? hx)
     have c1 := sl1Under_con (m := m) p x.path (by omega) (by omega)
     repeat' first | refine Ra ⟨?_⟩ | refine R0 c1 ⟨?_⟩ | refine Rd (fun h => ⟨?_⟩) fun h => ⟨?_⟩ | refine Rb ⟨?_⟩ | fail
     all_goals first
      | (refine RoundEnd.here ⟨mq - 1, by omega, ?_⟩
         refine la [0, 1, 5] ?_
         conv => whnf
         refine ⟨rfl, rfl, i + 1, (by omega), rfl, rfl, rfl, by omega, (by rw [ha, hr]; simp [bare, *])⟩)
      | (refine CallEnd.here (fa ?_)
         conv => whnf
         (try rw [ha])
         first | exact ⟨rfl, rfl, rfl, rfl⟩ | refine ⟨rfl, rfl, congrArg some (congrArg D.s ?_), rfl⟩ | refine ⟨rfl, rfl, congrArg some (congrArg D.b ?_), rfl⟩ | refine ⟨rfl, rfl, congrArg some (congrArg (D.k _) ?_), rfl⟩ | refine ⟨rfl, rfl, congrArg some ?_, rfl⟩
         all_goals first | rfl | (simp_all [bare]; done) | (simp [bare] <;> (repeat' split) <;> omega))
theorem sl3In_con (l : List Mrk) (p : Bs) (hl : l.length ≤ 1073741824) (hp : p.length ≤ 1073741823) : Con (E m) 252 0 [.sl (l.map Mrk.c), .s p] [] (.b (inM l p)) [] := by
 have c1 := sUp_con (m := m) p (by omega)
 have c2 := sl3Kind_con (m := m) l (pathUp p) hl
 have hx : inM l p = (decide (pathUp p = [47]) || (decide (kindAt l (pathUp p) = 2) || decide (kindAt l (pathUp p) = 4))) := by
  unfold inM kindAt
  cases markAt l (pathUp p) <;> simp [isDirMO, isDirM]
 rw [hx]
 refine con_of_cd tyOk mix Tryz.func252 rfl rfl rfl (Nat.le_of_ble_eq_true rfl) ?_
 repeat' first | refine Ra ⟨?_⟩ | refine R0 c1 ⟨?_⟩ | refine R0 c2 ⟨?_⟩ | refine Rd (fun h => ⟨?_⟩) fun h => ⟨?_⟩ | refine Rb ⟨?_⟩ | fail
 all_goals
  exact Rf
end Go.Proofs.YtlicaibhgcenhaaGreatDoor
