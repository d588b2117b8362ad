/- Contracts: trees that the laws' generators draw. -/
import Derived.Test.YtplhgbcpeohpgaaLl
set_option linter.unusedSimpArgs false
set_option linter.unusedVariables false
set_option maxHeartbeats 1000000
set_option maxRecDepth 10000
namespace Go.Proofs.Ytplhgbcpeohpgaa
open Go Go.RowKit Go.Ab Go.Par
variable {m : Int}
theorem l2Tree_raw (l : Bs) (p : Int) (hp : 0 ≤ p ∧ p ≤ 900000) (hl : l.length ≤ 2000) :
    ∃ d S', (∃ (t : List Ent) (p' : Int), t.length ≤ 17 ∧ bndE 100 t ∧ p ≤ p' ∧ p' ≤ p + 400 ∧ d = .own 1 ∧ S' = [(0, rd l p'), (1, .own 24 (t.map Ent.c))]) ∧ Con (E m) 12 1 [.bp 0 0] [(0, rd l p)] d S' := by
  have hk := numV_mem (m := m) l p (ls := [6, 12, 18, 24, 30, 3, 0]) (by decide)
  have hk2 := (by decide : ∀ x ∈ ([6, 12, 18, 24, 30, 3, 0] : List Int), 0 ≤ x ∧ x ≤ 30) _ hk
  refine any_of_cd tyOk mix Try.func12 rfl rfl rfl (Nat.le_of_ble_eq_true rfl) ?_
  repeat' first | refine Ra ⟨?_⟩ | ((first | refine Rc [0] 0 rfl rfl (num_con l _ [6, 12, 18, 24, 30, 3, 0] (by omega) hl (by decide) (by decide)) ?_ | (refine bd (fun h => ?_) (fun h => ?_) <;> (try simp only [List.length_map] at h)) | refine bsplit.mk (fun h => ?_) (fun h => ?_)) <;> conv => whnf) | refine Rb ⟨?_⟩ | fail
  refine Cd.loop2 (fun mq tm S nx => ∃ (i : Int) (q : Int) (t : List Ent), mq = (i.toNat) ∧ tm = [(0, .bp 0 0), (3, .own 1), (4, .k .i64 i)] ∧ S = [(0, rd l q), (1, .own 24 (t.map Ent.c))] ∧ nx = 2 ∧ (0 ≤ i ∧ i ≤ 30) ∧ (p + 1 ≤ q ∧ q ≤ p + 1 + 12 * (30 - i)) ∧ (t.length ≤ 17) ∧ (bndE 100 t)) ?_ ?_
  · refine la [0, 3, 4] ?_
    conv => whnf
    refine ⟨rfl, rfl, _, _, _, [], rfl, rfl, rfl, rfl, hk2, by omega, by simp, fun _ h => by cases h⟩
  · rintro mq tm S nx ⟨i, q, t, hn, rfl, rfl, rfl, hi, hq, ht, hb⟩
    by_cases hi0 : 0 < i
    · have hop := l2OpV_bd (m := m) l q t
      have c1 := l2Op_con (m := m) l q t (by omega) hl (by omega) hb
      have c2 := sTreeDo_con (m := m) t (l2OpV m l q t).1 (by omega) (fun e he => by have := hb e he; omega) (by omega) (by omega) (by omega)
      have hl2 := treeDo_len t (l2OpV m l q t).1
      have hb2 : bndE 100 (treeDo t (l2OpV m l q t).1).1 := treeDo_bnd (by omega) hb hop.1.1 hop.1.2.2
      repeat' first | refine Ra ⟨?_⟩ | ((first | refine Rc [0] 0 rfl rfl (c1) ?_ | refine Rc [] 1 rfl rfl (c2) ?_ | (refine bd (fun h => ?_) (fun h => ?_) <;> (try simp only [List.length_map] at h)) | refine bsplit.mk (fun h => ?_) (fun h => ?_)) <;> conv => whnf) | refine Rb ⟨?_⟩ | fail
      refine .here ⟨mq - 1, by omega, ?_⟩
      refine la [0, 3, 4] ?_
      conv => whnf
      refine ⟨rfl, rfl, i - 1, _, _, (by omega), rfl, rfl, rfl, by omega, by omega, hl2, hb2⟩
    · have hi1 : i = 0 := by omega
      subst hi1
      have fin : ∀ (t : List Ent) (q : Int), t.length ≤ 17 → bndE 100 t → p ≤ q → q ≤ p + 400 → ∃ (t' : List Ent) (p' : Int), t'.length ≤ 17 ∧ bndE 100 t' ∧ p ≤ p' ∧ p' ≤ p + 400 ∧ D.own 1 = .own 1 ∧ [(0, rd l q), (1, .own 24 (t.map Ent.c))] = [(0, rd l p'), (1, .own 24 (t'.map Ent.c))] :=
        fun t q h1 h2 h3 h4 => ⟨t, q, h1, h2, h3, h4, rfl, rfl⟩
      repeat' first | refine Ra ⟨?_⟩ | ((first | refine Rc [0] 0 rfl rfl (pick_con l _ _ (by omega) (by omega) hl) ?_ | (refine bd (fun h => ?_) (fun h => ?_) <;> (try simp only [List.length_map] at h)) | refine bsplit.mk (fun h => ?_) (fun h => ?_)) <;> conv => whnf) | refine Rb ⟨?_⟩ | fail
      · refine Cd.loop2 (fun mq tm S nx => ∃ (i : Nat) (t : List Ent), mq = (26 - i) ∧ tm = [(3, .own 1), (5, .k .i64 i)] ∧ S = [(0, rd l (q + 1)), (1, .own 24 (t.map Ent.c))] ∧ nx = 2 ∧ (i ≤ 26) ∧ (t.length ≤ 17) ∧ (bndE 100 t)) ?_ ?_
        · refine la [3, 5] ?_
          conv => whnf
          refine ⟨rfl, rfl, _, 0, t, rfl, rfl, rfl, rfl, by omega, ht, hb⟩
        · rintro mq tm S nx ⟨i, t, hn, rfl, rfl, rfl, hi, ht, hb⟩
          by_cases hlt : i < 26 ∧ t.length < 16
          · obtain ⟨hlt, hlt2⟩ := hlt
            have hu : ((UInt8.ofNat (97 + i)).toNat : Int) = 97 + (i : Int) := by
              have : (UInt8.ofNat (97 + i)).toNat = (97 + i) % 256 := by simp
              omega
            have hby : [[D.k .u8 (97 + (i : Int))]] = bytesOf [UInt8.ofNat (97 + i)] := by simp only [bytesOf, List.map_cons, List.map_nil, hu]
            have c2 := sTreeDo_con (m := m) t ⟨2, [47, 122] ++ [UInt8.ofNat (97 + i)], [], []⟩ (by omega) (fun e he => by have := hb e he; omega) (by simp) (by simp) (by simp)
            have hl2 := treeDo_len t ⟨2, [47, 122] ++ [UInt8.ofNat (97 + i)], [], []⟩
            have hb2 : bndE 100 (treeDo t ⟨2, [47, 122] ++ [UInt8.ofNat (97 + i)], [], []⟩).1 := treeDo_bnd (by omega) hb (by simp) (by simp)
            repeat' first | refine Ra ⟨?_⟩ | ((first | refine Rc [] 1 rfl rfl (c2) ?_ | refine wb (by omega) ?_ | refine ⟨_, hby, by simp [room], ?_⟩ | (refine bd (fun h => ?_) (fun h => ?_) <;> (try simp only [List.length_map] at h)) | refine bsplit.mk (fun h => ?_) (fun h => ?_)) <;> conv => whnf) | refine Rb ⟨?_⟩ | fail
            refine .here ⟨mq - 1, by omega, ?_⟩
            refine la [3, 5] ?_
            conv => whnf
            refine ⟨rfl, rfl, i + 1, _, (by omega), rfl, rfl, rfl, by omega, hl2, hb2⟩
          · repeat' first | refine Ra ⟨?_⟩ | ((first | (exfalso; omega) | (refine bd (fun h => ?_) (fun h => ?_) <;> (try simp only [List.length_map] at h)) | refine bsplit.mk (fun h => ?_) (fun h => ?_)) <;> conv => whnf) | refine Rb ⟨?_⟩ | fail
            all_goals
              refine AnyEnd.here (aa ?_)
              conv => whnf
              refine ⟨rfl, rfl, _, rfl, fin _ _ (by omega) hb (by omega) (by omega)⟩
      · refine AnyEnd.here (aa ?_)
        conv => whnf
        refine ⟨rfl, rfl, _, rfl, fin _ _ (by omega) hb (by omega) (by omega)⟩
noncomputable def l2TreeV (m : Int) (l : Bs) (p : Int) : List Ent × Int :=
  open Classical in if h : ∃ x : List Ent × Int, x.1.length ≤ 17 ∧ bndE 100 x.1 ∧ p ≤ x.2 ∧ x.2 ≤ p + 400 ∧ Con (E m) 12 1 [.bp 0 0] [(0, rd l p)] (.own 1) [(0, rd l x.2), (1, .own 24 (x.1.map Ent.c))] then h.choose else ([], p)
theorem l2TreeV_bd (l : Bs) (p : Int) : (l2TreeV m l p).1.length ≤ 17 ∧ bndE 100 (l2TreeV m l p).1 ∧ p ≤ (l2TreeV m l p).2 ∧ (l2TreeV m l p).2 ≤ p + 400 := by
  unfold l2TreeV
  split
  · rename_i h; exact ⟨h.choose_spec.1, h.choose_spec.2.1, h.choose_spec.2.2.1, h.choose_spec.2.2.2.1⟩
  · exact ⟨by simp, fun _ h => by simp at h, by simp, by simp; omega⟩
theorem l2Tree_con (l : Bs) (p : Int) (hp : 0 ≤ p ∧ p ≤ 900000) (hl : l.length ≤ 2000) : Con (E m) 12 1 [.bp 0 0] [(0, rd l p)] (.own 1) [(0, rd l (l2TreeV m l p).2), (1, .own 24 ((l2TreeV m l p).1.map Ent.c))] := by
  have h : ∃ x : List Ent × Int, x.1.length ≤ 17 ∧ bndE 100 x.1 ∧ p ≤ x.2 ∧ x.2 ≤ p + 400 ∧ Con (E m) 12 1 [.bp 0 0] [(0, rd l p)] (.own 1) [(0, rd l x.2), (1, .own 24 (x.1.map Ent.c))] := by
    obtain ⟨d, S', ⟨t, p', h1, h2, h3, h4, rfl, rfl⟩, hc⟩ := l2Tree_raw (m := m) l p hp hl
    exact ⟨(t, p'), h1, h2, h3, h4, hc⟩
  unfold l2TreeV
  rw [dif_pos h]
  exact h.choose_spec.2.2.2.2
theorem l2Bent_raw (l : Bs) (p : Int) (t : List Ent) (hp : 0 ≤ p ∧ p ≤ 1000000) (hl : l.length ≤ 2000) (ht : t.length ≤ 1000) (hb : bndE 100 t) :
    ∃ d S', (∃ (t' : List Ent) (p' : Int), t'.length ≤ t.length + 1 ∧ bndE 100 t' ∧ p ≤ p' ∧ p' ≤ p + 4 ∧ d = .sl (t'.map Ent.c) ∧ S' = [(0, rd l p')]) ∧ Con (E m) 11 1 [.bp 0 0, .sl (t.map Ent.c)] [(0, rd l p)] d S' := by
  have h1 : ∀ q, (ofV m l q [[47], [47, 97, 47, 98, 47, 99, 47, 100], [47, 65], [47, 99, 47, 99]]).length ≤ 100 := fun q => (by decide : ∀ x ∈ ([[47], [47, 97, 47, 98, 47, 99, 47, 100], [47, 65], [47, 99, 47, 99]] : List Bs), x.length ≤ 100) _ (ofV_mem l q (by decide))
  have h3 : ∀ q, (ofV m l q [[113], [65], [97, 98, 99, 100, 101, 102, 103]]).length ≤ 100 := fun q => (by decide : ∀ x ∈ ([[113], [65], [97, 98, 99, 100, 101, 102, 103]] : List Bs), x.length ≤ 100) _ (ofV_mem l q (by decide))
  have fin : ∀ (X : List (List D)) (t' : List Ent) (q : Int), X = t'.map Ent.c → t'.length ≤ t.length + 1 → bndE 100 t' → p ≤ q → q ≤ p + 4 → ∃ (t' : List Ent) (p' : Int), t'.length ≤ t.length + 1 ∧ bndE 100 t' ∧ p ≤ p' ∧ p' ≤ p + 4 ∧ D.sl X = .sl (t'.map Ent.c) ∧ [(0, rd l q)] = [(0, rd l p')] :=
    fun X t' q hX g1 g2 g3 g4 => ⟨t', q, g1, g2, g3, g4, by rw [hX], rfl⟩
  have hset : ∀ (j : Nat) (e : Ent), e.path.length ≤ 100 → e.data.length ≤ 100 → bndE 100 (t.set j e) := fun j e g1 g2 x hx => by
    rcases List.mem_or_eq_of_mem_set hx with hx | rfl
    · exact hb x hx
    · exact ⟨g1, g2⟩
  have hm : (t.map Ent.c).length = t.length := List.length_map ..
  have hj : 0 < t.length → (pickV m l p ((t.map Ent.c).length : Int)).toNat < t.length := fun h => pick_lt h
  generalize hk : (pickV m l p ((t.map Ent.c).length : Int)).toNat = j at hj
  have hk2 : pickV m l p ((t.map Ent.c).length : Int) = (j : Int) := by rw [← hk]; exact pick_nn l _ _
  have c0 := pick_con (m := m) l p ((t.map Ent.c).length : Int) (by omega) (by omega) hl
  rw [hk2] at c0
  refine any_of_cd tyOk mix Try.func11 rfl rfl rfl (Nat.le_of_ble_eq_true rfl) ?_
  refine Cd.seqS ?_
  repeat' first | refine Ra ⟨?_⟩ | ((first | (refine bd (fun h => ?_) (fun h => ?_) <;> (try simp only [List.length_map] at h)) | refine bsplit.mk (fun h => ?_) (fun h => ?_)) <;> conv => whnf) | refine Rb ⟨?_⟩ | fail
  all_goals (try refine Stop.here ?_)
  refine Cd.cut (fun tm S nx => tm = [(0, .bp 0 0), (5, .own 1)] ∧ S = [(0, rd l p), (1, .own 24 (t.map Ent.c))] ∧ nx = 2) ?_ ?_
  · repeat' first | refine Ra ⟨?_⟩ | ((first | (refine bd (fun h => ?_) (fun h => ?_) <;> (try simp only [List.length_map] at h)) | refine bsplit.mk (fun h => ?_) (fun h => ?_)) <;> conv => whnf) | refine Rb ⟨?_⟩ | fail
    refine CutEnd.here (la [0, 5] ?_)
    conv => whnf
    refine ⟨rfl, rfl, rfl, rfl, rfl⟩
  rintro tm S nx ⟨rfl, rfl, rfl⟩
  by_cases h0 : t.length = 0
  · repeat' first | refine Ra ⟨?_⟩ | ((first | refine bt (by omega) ?_ | (refine bd (fun h => ?_) (fun h => ?_) <;> (try simp only [List.length_map] at h)) | refine bsplit.mk (fun h => ?_) (fun h => ?_)) <;> conv => whnf) | refine Rb ⟨?_⟩ | fail
    refine AnyEnd.here (ai ?_)
    conv => whnf
    refine ⟨rfl, rfl, _, rfl, fin _ t _ rfl (by omega) hb (by omega) (by omega)⟩
  · have hjl := hj (by omega)
    have hge : (t.map Ent.c)[j]? = some (t[j]'hjl).c := map_get hjl
    have hbj := hb _ (List.getElem_mem hjl)
    repeat' first | refine Ra ⟨?_⟩ | ((first | refine bf (by omega) ?_ | refine Rc [0] 0 rfl rfl (c0) ?_ | refine Rc [0] 0 rfl rfl (pick_con l _ _ (by omega) (by omega) hl) ?_ | refine Rc [0] 0 rfl rfl (of_con l _ [[47], [47, 97, 47, 98, 47, 99, 47, 100], [47, 65], [47, 99, 47, 99]] (by omega) hl (by decide) (by decide)) ?_ | refine Rc [0] 0 rfl rfl (of_con l _ [[113], [65], [97, 98, 99, 100, 101, 102, 103]] (by omega) hl (by decide) (by decide)) ?_ | refine ⟨j, rfl, by rw [hm]; exact hjl, ?_⟩ | refine ⟨_, hge, Nat.le_of_ble_eq_true rfl, ?_⟩ | refine ⟨_, hge, ?_⟩ | refine ⟨1, rfl, ?_⟩ | (refine bd (fun h => ?_) (fun h => ?_) <;> (try simp only [List.length_map] at h)) | refine bsplit.mk (fun h => ?_) (fun h => ?_)) <;> conv => whnf) | refine Rb ⟨?_⟩ | fail
    · refine AnyEnd.here (ai ?_)
      conv => whnf
      refine ⟨rfl, rfl, _, rfl, fin _ (t ++ [t[j]'hjl]) _ (by rw [List.map_append]; rfl) (by simp) (fun x hx => by rcases List.mem_append.1 hx with hx | hx; exact hb x hx; rw [List.mem_singleton] at hx; rw [hx]; exact hbj) (by omega) (by omega)⟩
    · refine AnyEnd.here (ai ?_)
      conv => whnf
      refine ⟨rfl, rfl, _, rfl, fin _ (t.set j ⟨ofV m l (p + 1 + 1) [[47], [47, 97, 47, 98, 47, 99, 47, 100], [47, 65], [47, 99, 47, 99]], (t[j]'hjl).dir, (t[j]'hjl).data⟩) _ (by rw [List.map_set]; rfl) (by simp) (hset _ _ (h1 _) hbj.2) (by omega) (by omega)⟩
    · refine AnyEnd.here (ai ?_)
      conv => whnf
      refine ⟨rfl, rfl, _, rfl, fin _ (t.set j ⟨(t[j]'hjl).path, !(t[j]'hjl).dir, (t[j]'hjl).data⟩) _ (by rw [List.map_set]; rfl) (by simp) (hset _ _ hbj.1 hbj.2) (by omega) (by omega)⟩
    · refine AnyEnd.here (ai ?_)
      conv => whnf
      refine ⟨rfl, rfl, _, rfl, fin _ (t.set j ⟨(t[j]'hjl).path, (t[j]'hjl).dir, ofV m l (p + 1 + 1) [[113], [65], [97, 98, 99, 100, 101, 102, 103]]⟩) _ (by rw [List.map_set]; rfl) (by simp) (hset _ _ hbj.1 (h3 _)) (by omega) (by omega)⟩
    · refine AnyEnd.here (ai ?_)
      conv => whnf
      refine ⟨rfl, rfl, _, rfl, fin _ (t.drop 1) _ (by rw [List.map_drop, List.take_length]) (by simp; omega) (fun x hx => hb x (List.mem_of_mem_drop hx)) (by omega) (by omega)⟩
    · refine AnyEnd.here (ai ?_)
      conv => whnf
      refine ⟨rfl, rfl, _, rfl, fin _ t _ rfl (by omega) hb (by omega) (by omega)⟩
noncomputable def l2BentV (m : Int) (l : Bs) (p : Int) (t : List Ent) : List Ent × Int :=
  open Classical in if h : ∃ x : List Ent × Int, x.1.length ≤ t.length + 1 ∧ bndE 100 x.1 ∧ p ≤ x.2 ∧ x.2 ≤ p + 4 ∧ Con (E m) 11 1 [.bp 0 0, .sl (t.map Ent.c)] [(0, rd l p)] (.sl (x.1.map Ent.c)) [(0, rd l x.2)] then h.choose else ([], p)
theorem l2BentV_bd (l : Bs) (p : Int) (t : List Ent) : (l2BentV m l p t).1.length ≤ t.length + 1 ∧ bndE 100 (l2BentV m l p t).1 ∧ p ≤ (l2BentV m l p t).2 ∧ (l2BentV m l p t).2 ≤ p + 4 := by
  unfold l2BentV
  split
  · rename_i h; exact ⟨h.choose_spec.1, h.choose_spec.2.1, h.choose_spec.2.2.1, h.choose_spec.2.2.2.1⟩
  · exact ⟨by simp, fun _ h => by simp at h, by simp, by simp; omega⟩
theorem l2Bent_con (l : Bs) (p : Int) (t : List Ent) (hp : 0 ≤ p ∧ p ≤ 1000000) (hl : l.length ≤ 2000) (ht : t.length ≤ 1000) (hb : bndE 100 t) : Con (E m) 11 1 [.bp 0 0, .sl (t.map Ent.c)] [(0, rd l p)] (.sl ((l2BentV m l p t).1.map Ent.c)) [(0, rd l (l2BentV m l p t).2)] := by
  have h : ∃ x : List Ent × Int, x.1.length ≤ t.length + 1 ∧ bndE 100 x.1 ∧ p ≤ x.2 ∧ x.2 ≤ p + 4 ∧ Con (E m) 11 1 [.bp 0 0, .sl (t.map Ent.c)] [(0, rd l p)] (.sl (x.1.map Ent.c)) [(0, rd l x.2)] := by
    obtain ⟨d, S', ⟨t, p', h1, h2, h3, h4, rfl, rfl⟩, hc⟩ := l2Bent_raw (m := m) l p t hp hl ht hb
    exact ⟨(t, p'), h1, h2, h3, h4, hc⟩
  unfold l2BentV
  rw [dif_pos h]
  exact h.choose_spec.2.2.2.2
end Go.Proofs.Ytplhgbcpeohpgaa
