/- Contracts: right layers and their texts, as the document has them; the laws' own helpers for lists of marks. -/
import Derived.Test.YtoaiplobfellaaaGreatDoorLh
set_option linter.unusedSimpArgs false
set_option linter.unusedVariables false
set_option maxHeartbeats 1000000
set_option maxRecDepth 10000
namespace Go.Proofs.YtoaiplobfellaaaGreatDoor
open Go Go.RowKit Go.Ab Go.Par
variable {m : Int}
set_option maxHeartbeats 1000000 in
theorem sLayerOk_con (l : List Mrk) (hl : l.length ≤ 1073741824) (hb : ∀ e ∈ l, e.path.length ≤ 1073741823 ∧ e.data.length ≤ 1073741823) : Con (E m) 233 0 [.sl (l.map Mrk.c)] [] (.b (layerOk l)) [] := by
  refine con_of_cd tyOk mix Tryz.func233 rfl rfl rfl (Nat.le_of_ble_eq_true rfl) ?_
  repeat' first | refine Ra ⟨?_⟩ | ((first | (refine bd (fun h => ?_) (fun h => ?_) <;> (try simp only [List.length_map] at h)) | refine bsplit.mk (fun h => ?_) (fun h => ?_)) <;> conv => whnf) | refine Rb ⟨?_⟩ | fail
  refine Cd.loop2 (fun mq tm S nx => ∃ (i : Nat), mq = (l.length - i) ∧ tm = [(0, .sl (l.map Mrk.c)), (3, .k .i64 i)] ∧ S = [] ∧ nx = 0 ∧ (i ≤ l.length) ∧ (∀ k, k < i → okLS l k = true)) ?_ ?_
  · refine la [0, 3] ?_
    conv => whnf
    refine ⟨rfl, rfl, _, 0, rfl, rfl, rfl, rfl, Nat.zero_le _, fun k h => absurd h (Nat.not_lt_zero _)⟩
  · rintro mq tm S nx ⟨i, hn, rfl, rfl, rfl, hi, ha⟩
    by_cases hlt : i < l.length
    · have hq := hb l[i] (List.getElem_mem hlt)
      have h1 := sPathOk_con (m := m) l[i].path (by omega)
      have h2 := sData_con (m := m) l[i].data (by omega)
      have h3 := sl3In_con (m := m) (l.take i) l[i].path (by rw [List.length_take]; omega) (by omega)
      have h4 := sl3Bare_con (m := m) (l.take i) l[i].path (by rw [List.length_take]; omega) (by omega) (fun x hx => (hb x (List.mem_of_mem_take hx)).1)
      rw [List.map_take] at h3 h4
      repeat' first | refine Ra ⟨?_⟩ | ((first | refine Rc [] 0 rfl rfl (h1) ?_ | refine Rc [] 0 rfl rfl (h2) ?_ | refine Rc [] 0 rfl rfl (h3) ?_ | refine Rc [] 0 rfl rfl (h4) ?_ | refine ⟨i - 1, _, by omega, map_get (by omega), rfl, ?_⟩ | (refine bd (fun h => ?_) (fun h => ?_) <;> (try simp only [List.length_map] at h)) | refine bsplit.mk (fun h => ?_) (fun h => ?_)) <;> conv => whnf) | refine Rb ⟨?_⟩ | fail
      all_goals first
        | (have hf : okLS l i = false := by
             clear h1 h2 h3 h4 hb ha hn
             rw [okLS_at hlt]
             try have hi0 : 0 < i := by omega
             try have hi0 : i = 0 := by omega
             first | (rw [markOk_bad ‹_›]; simp; done) | (unfold markOk; simp_all [lt]; done) | (unfold markOk; simp_all [lt]; omega)
           have hg := layerOk_false hlt hf
           rw [hg]
           refine CallEnd.here (fa ?_)
           conv => whnf
           exact ⟨rfl, rfl, rfl, rfl⟩)
        | (have hf : okLS l i = true := by
             clear h1 h2 h3 h4 hb ha hn
             rw [okLS_at hlt]
             unfold markOk
             try have hi0 : 0 < i := by omega
             try have hi0 : i = 0 := by omega
             first | (simp_all [lt]; done) | (simp_all [lt]; omega)
           refine .here ⟨mq - 1, by omega, ?_⟩
           refine la [0, 3] ?_
           conv => whnf
           refine ⟨rfl, rfl, i + 1, (by omega), rfl, rfl, rfl, by omega, all_lt ha hf⟩)
    · repeat' first | refine Ra ⟨?_⟩ | ((first | (refine bd (fun h => ?_) (fun h => ?_) <;> (try simp only [List.length_map] at h)) | refine bsplit.mk (fun h => ?_) (fun h => ?_)) <;> conv => whnf) | refine Rb ⟨?_⟩ | fail
      have hi2 : i = l.length := by omega
      subst hi2
      by_cases h32 : l.length ≤ 32
      · have hf : layerOk l = true := layerOk_true h32 ha
        rw [hf]
        exact Rf
      · have hf : layerOk l = false := by simp [layerOk, h32]
        rw [hf]
        exact Rf
theorem szMarkS_con (es : List Mrk) (n : Int) (hn : 0 ≤ n ∧ n ≤ 1048576) (hl : es.length ≤ 9223372036854775807) (hb : ∀ e ∈ es, e.path.length ≤ 9223372036854775807 ∧ e.data.length ≤ 9223372036854775807) :
    Con (E m) 152 0 [.sl (es.map Mrk.c), .k .i64 n] [] (.k .i64 (szMarks es n)) [] := by
  refine con_of_cd tyOk mix Tryz.func152 rfl rfl rfl (Nat.le_of_ble_eq_true rfl) ?_
  repeat' first | refine Ra ⟨?_⟩ | ((first | (refine bd (fun h => ?_) (fun h => ?_) <;> (try simp only [List.length_map] at h)) | refine bsplit.mk (fun h => ?_) (fun h => ?_)) <;> conv => whnf) | refine Rb ⟨?_⟩ | fail
  · have hf : szMarks es n = -1 := if_pos ‹_›
    rw [hf]
    exact Rf
  · have hf : szMarks es n = szAllM es (n - es.length) := if_neg ‹_›
    rw [hf]
    refine Cd.loop2 (fun mq tm S nx => ∃ (i : Nat) (l : Int), mq = (es.length - i) ∧ tm = [(0, .sl (es.map Mrk.c)), (1, .k .i64 l), (5, .k .i64 i)] ∧ S = [] ∧ nx = 0 ∧ (i ≤ es.length) ∧ (0 ≤ l) ∧ (l ≤ 1048576) ∧ (szAllM es (n - es.length) = szAllM (es.drop i) l)) ?_ ?_
    · refine la [0, 1, 5] ?_
      conv => whnf
      refine ⟨rfl, rfl, _, 0, n - (es.map Mrk.c).length, rfl, rfl, rfl, rfl, Nat.zero_le _, (by rw [List.length_map]; omega), (by rw [List.length_map]; omega), (by rw [List.length_map]; rfl)⟩
    · rintro mq tm S nx ⟨i, l, hn, rfl, rfl, rfl, hi, h0, h1, ha⟩
      rcases drop_or es i hi with ⟨rfl, hd⟩ | ⟨x, r, hx, hd, hr, hlt⟩
      · rw [hd] at ha
        rw [ha]
        repeat' first | refine Ra ⟨?_⟩ | ((first | (refine bd (fun h => ?_) (fun h => ?_) <;> (try simp only [List.length_map] at h)) | refine bsplit.mk (fun h => ?_) (fun h => ?_)) <;> conv => whnf) | refine Rb ⟨?_⟩ | fail
        exact Rf
      · have hbe := hb x (List.mem_of_getElem? hx)
        rw [hd, szAllM] at ha
        have hle := less2_le l x.path.length x.data.length h0
        repeat' first | refine Ra ⟨?_⟩ | ((first | refine Rc [] 0 rfl rfl (szMark_con x l ⟨h0, h1⟩ hbe.1 hbe.2) ?_ | (refine bd (fun h => ?_) (fun h => ?_) <;> (try simp only [List.length_map] at h)) | refine bsplit.mk (fun h => ?_) (fun h => ?_)) <;> conv => whnf) | refine Rb ⟨?_⟩ | fail
        · rw [if_pos ‹_›] at ha
          rw [ha]
          exact Rf
        · rw [if_neg ‹_›, ← hr] at ha
          refine .here ⟨mq - 1, by omega, ?_⟩
          refine la [0, 1, 5] ?_
          conv => whnf
          refine ⟨rfl, rfl, i + 1, less2 l x.path.length x.data.length, (by omega), rfl, rfl, rfl, by omega, by omega, by omega, ha⟩
theorem toMarkS_con (es : List Mrk) (hl : es.length ≤ 1048576) : Con (E m) 154 0 [.sl (es.map Mrk.c)] [] (.own 0) [(0, .own 80 (es.map Mrk.c))] := by
  refine con_of_cd tyOk mix Tryz.func154 rfl rfl rfl (Nat.le_of_ble_eq_true rfl) ?_
  repeat' first | refine Ra ⟨?_⟩ | ((first | refine ⟨es.length, by simp only [List.length_map], by simp only [List.length_map], (by unfold room; omega), Nat.le_of_ble_eq_true rfl, ?_⟩ | (refine bd (fun h => ?_) (fun h => ?_) <;> (try simp only [List.length_map] at h)) | refine bsplit.mk (fun h => ?_) (fun h => ?_)) <;> conv => whnf) | refine Rb ⟨?_⟩ | fail
  refine Cd.loop2 (fun mq tm S nx => ∃ (i : Nat) (xs : List (List D)), mq = (es.length - i) ∧ tm = [(0, .sl (es.map Mrk.c)), (3, .own 0), (4, .k .i64 i)] ∧ S = [(0, .own 80 xs)] ∧ nx = 1 ∧ (i ≤ es.length) ∧ (xs = (es.take i).map Mrk.c ++ List.replicate (es.length - i) [.s [], .k .i64 0, .s []])) ?_ ?_
  · refine la [0, 3, 4] ?_
    conv => whnf
    refine ⟨rfl, rfl, _, 0, _, rfl, rfl, rfl, rfl, Nat.zero_le _, rfl⟩
  · rintro mq tm S nx ⟨i, xs, hn, rfl, rfl, rfl, hi, hxs⟩
    have hxl : xs.length = es.length := by rw [hxs]; simp; omega
    by_cases hlt : i < es.length
    · have hg : xs[i]? = some [.s [], .k .i64 0, .s []] := by rw [hxs]; exact fill_get hlt
      repeat' first | refine Ra ⟨?_⟩ | ((first | refine Rc [] 0 rfl rfl (toMark_con es[i]) ?_ | refine ⟨_, hg, Nat.le_of_ble_eq_true rfl, ?_⟩ | (refine bd (fun h => ?_) (fun h => ?_) <;> (try simp only [List.length_map] at h)) | refine bsplit.mk (fun h => ?_) (fun h => ?_)) <;> conv => whnf) | refine Rb ⟨?_⟩ | fail
      refine .here ⟨mq - 1, by omega, ?_⟩
      refine la [0, 3, 4] ?_
      conv => whnf
      refine ⟨rfl, rfl, i + 1, _, (by omega), rfl, rfl, rfl, by omega, (by rw [hxs]; exact fill_set hlt)⟩
    · have hx : xs = es.map Mrk.c := by
        rw [hxs, List.take_of_length_le (by omega)]
        have : es.length - i = 0 := by omega
        simp [this]
      subst hx
      repeat' first | refine Ra ⟨?_⟩ | ((first | (refine bd (fun h => ?_) (fun h => ?_) <;> (try simp only [List.length_map] at h)) | refine bsplit.mk (fun h => ?_) (fun h => ?_)) <;> conv => whnf) | refine Rb ⟨?_⟩ | fail
      exact Rf
theorem eqMark_con (a b : Mrk) : Con (E m) 210 0 [.agg a.c, .agg b.c] [] (.b (eqM a b)) [] := by
  refine con_of_cd tyOk mix Tryz.func210 rfl rfl rfl (Nat.le_of_ble_eq_true rfl) ?_
  repeat' first | refine Ra ⟨?_⟩ | ((first | (refine bd (fun h => ?_) (fun h => ?_) <;> (try simp only [List.length_map] at h)) | refine bsplit.mk (fun h => ?_) (fun h => ?_)) <;> conv => whnf) | refine Rb ⟨?_⟩ | fail
  all_goals
    first | refine CallEnd.here (fa ?_) | refine fa ?_
    conv => whnf
    first | exact ⟨rfl, rfl, rfl, rfl⟩ | refine ⟨rfl, rfl, congrArg some (congrArg D.s ?_), rfl⟩ | refine ⟨rfl, rfl, congrArg some (congrArg D.b ?_), rfl⟩ | refine ⟨rfl, rfl, congrArg some (congrArg (D.k _) ?_), rfl⟩ | refine ⟨rfl, rfl, congrArg some (congrArg D.agg ?_), rfl⟩ | refine ⟨rfl, rfl, rfl, ?_⟩
    all_goals first | rfl | (simp_all [eqM]; done) | (simp [eqM] <;> (repeat' split) <;> omega) | (simp only [eqM]; repeat' split) <;> first | omega | (simp_all; done) | (simp_all; omega) | (rw [Bool.eq_iff_iff]; simp [*, eqM] <;> omega)
theorem eqMarkS_con (t : List Mrk) (hl : t.length ≤ 1048576) : Con (E m) 156 0 [.sl (t.map Mrk.c), .sl (t.map Mrk.c)] [] (.b true) [] := by
  refine con_of_cd tyOk mix Tryz.func156 rfl rfl rfl (Nat.le_of_ble_eq_true rfl) ?_
  repeat' first | refine Ra ⟨?_⟩ | ((first | (refine bd (fun h => ?_) (fun h => ?_) <;> (try simp only [List.length_map] at h)) | refine bsplit.mk (fun h => ?_) (fun h => ?_)) <;> conv => whnf) | refine Rb ⟨?_⟩ | fail
  refine Cd.loop2 (fun mq tm S nx => ∃ (i : Nat), mq = (t.length - i) ∧ tm = [(0, .sl (t.map Mrk.c)), (1, .sl (t.map Mrk.c)), (5, .k .i64 i)] ∧ S = [] ∧ nx = 0 ∧ (i ≤ t.length)) ?_ ?_
  · refine la [0, 1, 5] ?_
    conv => whnf
    refine ⟨rfl, rfl, _, 0, rfl, rfl, rfl, rfl, Nat.zero_le _⟩
  · rintro mq tm S nx ⟨i, hn, rfl, rfl, rfl, hi⟩
    rcases drop_or t i hi with ⟨rfl, hd⟩ | ⟨x, r, hx, hd, hr, hlt⟩
    · repeat' first | refine Ra ⟨?_⟩ | ((first | (refine bd (fun h => ?_) (fun h => ?_) <;> (try simp only [List.length_map] at h)) | refine bsplit.mk (fun h => ?_) (fun h => ?_)) <;> conv => whnf) | refine Rb ⟨?_⟩ | fail
      exact Rf
    · have he := eqMark_con (m := m) x x
      rw [eqM_self] at he
      repeat' first | refine Ra ⟨?_⟩ | ((first | refine Rc [] 0 rfl rfl (he) ?_ | (refine bd (fun h => ?_) (fun h => ?_) <;> (try simp only [List.length_map] at h)) | refine bsplit.mk (fun h => ?_) (fun h => ?_)) <;> conv => whnf) | refine Rb ⟨?_⟩ | fail
      refine .here ⟨mq - 1, by omega, ?_⟩
      refine la [0, 1, 5] ?_
      conv => whnf
      refine ⟨rfl, rfl, i + 1, (by omega), rfl, rfl, rfl, by omega⟩
theorem lMark_cells {cs : List D} (h : Shp Tryz.prog 199 cs) : ∃ e : Mrk, cs = e.c ∧ e.path.length ≤ 9223372036854775807 ∧ e.data.length ≤ 9223372036854775807 := by
  have h1 := h.struct_inv Tryz.underlying199
  have h2 : ShpF Tryz.prog [9, 3, 9] cs := h1
  obtain ⟨a, _, rfl, ha, b, _, rfl, hb, c, _, rfl, hc, rfl⟩ := h2
  obtain ⟨p, rfl, hp⟩ := ha.str_inv Tryz.underlying9
  obtain ⟨x, rfl, _⟩ := hb.int_inv Tryz.underlying3
  obtain ⟨q, rfl, hq⟩ := hc.str_inv Tryz.underlying9
  exact ⟨⟨p, x, q⟩, rfl, hp, hq⟩
theorem lMarks_cells : ∀ (xs : List (List D)), (∀ cs ∈ xs, Shp Tryz.prog 199 cs) → ∃ es : List Mrk, xs = es.map Mrk.c ∧ ∀ e ∈ es, e.path.length ≤ 9223372036854775807 ∧ e.data.length ≤ 9223372036854775807
  | [], _ => ⟨[], rfl, by simp⟩
  | cs :: xs, h => by
    obtain ⟨e, rfl, h1, h2⟩ := lMark_cells (h cs (by simp))
    obtain ⟨es, rfl, h3⟩ := lMarks_cells xs fun c hc => h c (by simp [hc])
    refine ⟨e :: es, rfl, fun x hx => ?_⟩
    rcases List.mem_cons.1 hx with rfl | hx
    · exact ⟨h1, h2⟩
    · exact h3 x hx
theorem lMarks_shp {d : D} (h : ShpV Tryz.prog 98 d) : ∃ es : List Mrk, d = .sl (es.map Mrk.c) ∧ es.length ≤ 9223372036854775807 ∧ ∀ e ∈ es, e.path.length ≤ 9223372036854775807 ∧ e.data.length ≤ 9223372036854775807 := by
  have h1 := h.one (fun fs => by rw [Tryz.underlying98]; simp)
  obtain ⟨xs, hx, hl, hc⟩ := h1.slice_inv Tryz.underlying98
  obtain ⟨es, rfl, he⟩ := lMarks_cells xs hc
  cases hx
  rw [List.length_map] at hl
  exact ⟨es, rfl, hl, he⟩
end Go.Proofs.YtoaiplobfellaaaGreatDoor
