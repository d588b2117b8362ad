/- Contracts: what the laws' generators draw of trees and of what is done to them. -/
import Derived.Test.YtplhgbcpeohpgaaLk
import Derived.Test.YtplhgbcpeohpgaaLm
set_option linter.unusedSimpArgs false
set_option linter.unusedVariables false
set_option maxHeartbeats 1000000
set_option maxRecDepth 10000
namespace Go.Proofs.Ytplhgbcpeohpgaa
open Go Go.RowKit Go.Ab Go.Par
variable {m : Int}
theorem pick_nn (l : Bs) (p n : Int) : pickV m l p n = (((pickV m l p n).toNat : Nat) : Int) := (Int.toNat_of_nonneg (pickV_bd l p n).1).symm
theorem pick_lt {l : Bs} {p : Int} {α : Type} {f : α → List D} {t : List α} (h : 0 < t.length) : (pickV m l p ((t.map f).length : Int)).toNat < t.length := by
  have h1 := pickV_bd (m := m) l p ((t.map f).length : Int)
  have h0 : (t.map f).length = t.length := List.length_map ..
  omega
theorem idx_own {l : Bs} {p : Int} {n : Nat} {K : Nat → Prop} (ht : 0 < n) (h : ∀ j, j < n → K j) : ∃ (j : Nat), pickV m l p (n : Int) = (j : Int) ∧ j < n ∧ K j := by
  have h1 := pickV_bd (m := m) l p (n : Int)
  have h3 : (pickV m l p (n : Int)).toNat < n := by omega
  exact ⟨_, (Int.toNat_of_nonneg h1.1).symm, h3, h _ h3⟩
def l1Paths : List Bs := [[47, 97], [47, 98], [47, 97, 47, 98], [47, 97, 47, 99], [47, 98, 47, 97], [47, 97, 98], [47, 97, 47, 98, 47, 99], [47, 97, 47, 98, 47, 97], [47, 98, 47, 98], [47, 99]]
theorem l1Paths_len : ∀ x ∈ l1Paths, x.length ≤ 100 := by decide
theorem l1Paths_ok : ∀ x ∈ l1Paths, pathOk x = true := by decide
theorem l1Path_con (l : Bs) (p : Int) (hp : 0 ≤ p ∧ p ≤ 1048576) (hl : l.length ≤ 2000) : Con (E m) 20 1 [.bp 0 0] [(0, rd l p)] (.s (ofV m l p l1Paths)) [(0, rd l (p + 1))] := by
  have c1 := of_con (m := m) l p l1Paths hp hl (by decide) (by decide)
  refine con_of_cd tyOk mix Try.func20 rfl rfl rfl (Nat.le_of_ble_eq_true rfl) ?_
  repeat' first | refine Ra ⟨?_⟩ | ((first | refine Rc [0] 0 rfl rfl (c1) ?_ | (refine bd (fun h => ?_) (fun h => ?_) <;> (try simp only [List.length_map] at h)) | refine bsplit.mk (fun h => ?_) (fun h => ?_)) <;> conv => whnf) | refine Rb ⟨?_⟩ | fail
  exact Rf
def l2Somes : List Bs := [[], [120], [121], [49, 50], [97, 98, 99], [122, 57]]
theorem l2Somes_len : ∀ x ∈ l2Somes, x.length ≤ 100 := by decide
theorem l2Some_con (l : Bs) (p : Int) (hp : 0 ≤ p ∧ p ≤ 1048576) (hl : l.length ≤ 2000) : Con (E m) 21 1 [.bp 0 0] [(0, rd l p)] (.s (ofV m l p l2Somes)) [(0, rd l (p + 1))] := by
  have c1 := of_con (m := m) l p l2Somes hp hl (by decide) (by decide)
  refine con_of_cd tyOk mix Try.func21 rfl rfl rfl (Nat.le_of_ble_eq_true rfl) ?_
  repeat' first | refine Ra ⟨?_⟩ | ((first | refine Rc [0] 0 rfl rfl (c1) ?_ | (refine bd (fun h => ?_) (fun h => ?_) <;> (try simp only [List.length_map] at h)) | refine bsplit.mk (fun h => ?_) (fun h => ?_)) <;> conv => whnf) | refine Rb ⟨?_⟩ | fail
  exact Rf
theorem l2Op_raw (l : Bs) (p : Int) (t : List Ent) (hp : 0 ≤ p ∧ p ≤ 1000000) (hl : l.length ≤ 2000) (ht : t.length ≤ 100) (hb : bndE 100 t) :
    ∃ d S', (∃ (o : Opn) (p' : Int), (o.path.length ≤ 100 ∧ o.to.length ≤ 100 ∧ o.data.length ≤ 100) ∧ p ≤ p' ∧ p' ≤ p + 12 ∧ d = .agg o.c ∧ S' = [(0, rd l p')]) ∧ Con (E m) 19 1 [.bp 0 0, .sl (t.map Ent.c)] [(0, rd l p)] d S' := by
  have hk := numV_mem (m := m) l p (ls := [1, 2, 2, 3, 4, 5, 1, 5]) (by decide)
  have hq : ∀ q, (ofV m l q l1Paths).length ≤ 100 := fun q => l1Paths_len _ (ofV_mem l q (by decide))
  have hs : ∀ q, (ofV m l q l2Somes).length ≤ 100 := fun q => l2Somes_len _ (ofV_mem l q (by decide))
  have h1 : ∀ q, (ofV m l q [[47], [], [47, 65], [47, 97, 47, 98, 47, 99, 47, 100]]).length ≤ 100 := fun q => (by decide : ∀ x ∈ ([[47], [], [47, 65], [47, 97, 47, 98, 47, 99, 47, 100]] : List Bs), x.length ≤ 100) _ (ofV_mem l q (by decide))
  have h2 : ∀ q, (ofV m l q [[47], [47, 97], [47, 99, 47, 99, 47, 99], []]).length ≤ 100 := fun q => (by decide : ∀ x ∈ ([[47], [47, 97], [47, 99, 47, 99, 47, 99], []] : List Bs), x.length ≤ 100) _ (ofV_mem l q (by decide))
  have h3 : ∀ q, (ofV m l q [[113], [65], [97, 98, 99, 100, 101, 102, 103], [97, 98, 99, 100, 101, 102]]).length ≤ 100 := fun q => (by decide : ∀ x ∈ ([[113], [65], [97, 98, 99, 100, 101, 102, 103], [97, 98, 99, 100, 101, 102]] : List Bs), x.length ≤ 100) _ (ofV_mem l q (by decide))
  have hm : ((t.map Ent.c).length : Int) = t.length := by rw [List.length_map]
  generalize hkk : numV m l p [1, 2, 2, 3, 4, 5, 1, 5] = kind at hk
  have c0 := num_con (m := m) l p [1, 2, 2, 3, 4, 5, 1, 5] (by omega) hl (by decide) (by decide)
  rw [hkk] at c0
  have hb0 : ∀ x ∈ t, x.path.length ≤ 100 := fun x hx => (hb x hx).1
  refine any_of_cd tyOk mix Try.func19 rfl rfl rfl (Nat.le_of_ble_eq_true rfl) ?_
  refine Cd.seqS ?_
  repeat' first | refine Ra ⟨?_⟩ | ((first | (refine bd (fun h => ?_) (fun h => ?_) <;> (try simp only [List.length_map] at h)) | refine bsplit.mk (fun h => ?_) (fun h => ?_)) <;> conv => whnf) | refine Rb ⟨?_⟩ | fail
  all_goals (try refine Stop.here ?_)
  refine Cd.seqS ?_
  repeat' first | refine Ra ⟨?_⟩ | ((first | refine Rc [0] 0 rfl rfl (c0) ?_ | refine Rc [0] 0 rfl rfl (l1Path_con l _ (by omega) hl) ?_ | (refine bd (fun h => ?_) (fun h => ?_) <;> (try simp only [List.length_map] at h)) | refine bsplit.mk (fun h => ?_) (fun h => ?_)) <;> conv => whnf) | refine Rb ⟨?_⟩ | fail
  all_goals (try refine Stop.here ?_)
  refine Cd.cut (fun tm S nx => ∃ (a : Bs) (q : Int), tm = [(0, .bp 0 0), (1, .sl (t.map Ent.c)), (4, .bp 1 0), (5, .bp 2 0)] ∧ S = [(0, rd l q), (1, .box 50 op0.c), (2, .box 50 [.k .i64 kind, .s a, .s [], .s []])] ∧ nx = 3 ∧ (a.length ≤ 100) ∧ (p ≤ q ∧ q ≤ p + 4)) ?_ ?_
  · repeat' first | refine Ra ⟨?_⟩ | ((first | refine Rc [0] 0 rfl rfl (pick_con l _ _ (by omega) (by omega) hl) ?_ | refine ⟨_, _, pick_nn l _ _, map_get (pick_lt (by omega)), rfl, ?_⟩ | (refine bd (fun h => ?_) (fun h => ?_) <;> (try simp only [List.length_map] at h)) | refine bsplit.mk (fun h => ?_) (fun h => ?_)) <;> conv => whnf) | refine Rb ⟨?_⟩ | fail
    · refine CutEnd.here (la [0, 1, 4, 5] ?_)
      conv => whnf
      refine ⟨rfl, rfl, _, _, rfl, rfl, rfl, hb0 _ (List.getElem_mem _), by omega⟩
    all_goals
      refine CutEnd.here (la [0, 1, 4, 5] ?_)
      conv => whnf
      refine ⟨rfl, rfl, _, _, rfl, rfl, rfl, hq _, by omega⟩
  rintro tm S nx ⟨a, q, rfl, rfl, rfl, ha, hq2⟩
  refine Cd.cut (fun tm S nx => ∃ (c : Bs) (q : Int), tm = [(0, .bp 0 0), (1, .sl (t.map Ent.c)), (4, .bp 1 0), (5, .bp 2 0)] ∧ S = [(0, rd l q), (1, .box 50 op0.c), (2, .box 50 [.k .i64 kind, .s a, .s [], .s c])] ∧ nx = 3 ∧ (c.length ≤ 100) ∧ (p ≤ q ∧ q ≤ p + 5)) ?_ ?_
  · repeat' first | refine Ra ⟨?_⟩ | ((first | refine Rc [0] 0 rfl rfl (l2Some_con l _ (by omega) hl) ?_ | (refine bd (fun h => ?_) (fun h => ?_) <;> (try simp only [List.length_map] at h)) | refine bsplit.mk (fun h => ?_) (fun h => ?_)) <;> conv => whnf) | refine Rb ⟨?_⟩ | fail
    · refine CutEnd.here (la [0, 1, 4, 5] ?_)
      conv => whnf
      refine ⟨rfl, rfl, _, _, rfl, rfl, rfl, hs _, by omega⟩
    · refine CutEnd.here (la [0, 1, 4, 5] ?_)
      conv => whnf
      refine ⟨rfl, rfl, _, _, rfl, rfl, rfl, by simp, by omega⟩
  rintro tm S nx ⟨c, q, rfl, rfl, rfl, hc, hq3⟩
  refine Cd.cut (fun tm S nx => ∃ (b : Bs) (q : Int), tm = [(0, .bp 0 0), (1, .sl (t.map Ent.c)), (4, .bp 1 0), (5, .bp 2 0)] ∧ S = [(0, rd l q), (1, .box 50 op0.c), (2, .box 50 [.k .i64 kind, .s a, .s b, .s c])] ∧ nx = 3 ∧ (b.length ≤ 100) ∧ (p ≤ q ∧ q ≤ p + 6)) ?_ ?_
  · repeat' first | refine Ra ⟨?_⟩ | ((first | refine Rc [0] 0 rfl rfl (l1Path_con l _ (by omega) hl) ?_ | (refine bd (fun h => ?_) (fun h => ?_) <;> (try simp only [List.length_map] at h)) | refine bsplit.mk (fun h => ?_) (fun h => ?_)) <;> conv => whnf) | refine Rb ⟨?_⟩ | fail
    · refine CutEnd.here (la [0, 1, 4, 5] ?_)
      conv => whnf
      refine ⟨rfl, rfl, _, _, rfl, rfl, rfl, hq _, by omega⟩
    · refine CutEnd.here (la [0, 1, 4, 5] ?_)
      conv => whnf
      refine ⟨rfl, rfl, _, _, rfl, rfl, rfl, by simp, by omega⟩
  rintro tm S nx ⟨b, q, rfl, rfl, rfl, hbb, hq4⟩
  repeat' first | refine Ra ⟨?_⟩ | ((first | refine Rc [0] 0 rfl rfl (of_con l _ [[47], [], [47, 65], [47, 97, 47, 98, 47, 99, 47, 100]] (by omega) hl (by decide) (by decide)) ?_ | refine Rc [0] 0 rfl rfl (of_con l _ [[47], [47, 97], [47, 99, 47, 99, 47, 99], []] (by omega) hl (by decide) (by decide)) ?_ | refine Rc [0] 0 rfl rfl (of_con l _ [[113], [65], [97, 98, 99, 100, 101, 102, 103], [97, 98, 99, 100, 101, 102]] (by omega) hl (by decide) (by decide)) ?_ | refine Rc [0] 0 rfl rfl (num_con l _ [0, 6, -1, 1] (by omega) hl (by decide) (by decide)) ?_ | refine Rc [0] 0 rfl rfl (pick_con l _ _ (by omega) (by omega) hl) ?_ | (refine bd (fun h => ?_) (fun h => ?_) <;> (try simp only [List.length_map] at h)) | refine bsplit.mk (fun h => ?_) (fun h => ?_)) <;> conv => whnf) | refine Rb ⟨?_⟩ | fail
  all_goals
    refine AnyEnd.here (aa ?_)
    conv => whnf
    refine ⟨rfl, rfl, _, rfl, ⟨⟨_, _, _, _⟩, _, ⟨?_, ?_, ?_⟩, ?_, ?_, rfl, rfl⟩⟩
    all_goals first
      | exact ha
      | exact hbb
      | exact hc
      | exact h1 _
      | exact h2 _
      | exact h3 _
      | omega
noncomputable def l2OpV (m : Int) (l : Bs) (p : Int) (t : List Ent) : Opn × Int :=
  open Classical in if h : ∃ x : Opn × Int, (x.1.path.length ≤ 100 ∧ x.1.to.length ≤ 100 ∧ x.1.data.length ≤ 100) ∧ p ≤ x.2 ∧ x.2 ≤ p + 12 ∧ Con (E m) 19 1 [.bp 0 0, .sl (t.map Ent.c)] [(0, rd l p)] (.agg x.1.c) [(0, rd l x.2)] then h.choose else (op0, p)
theorem l2OpV_bd (l : Bs) (p : Int) (t : List Ent) : ((l2OpV m l p t).1.path.length ≤ 100 ∧ (l2OpV m l p t).1.to.length ≤ 100 ∧ (l2OpV m l p t).1.data.length ≤ 100) ∧ p ≤ (l2OpV m l p t).2 ∧ (l2OpV m l p t).2 ≤ p + 12 := by
  unfold l2OpV
  split
  · rename_i h; exact ⟨h.choose_spec.1, h.choose_spec.2.1, h.choose_spec.2.2.1⟩
  · exact ⟨⟨by simp [op0], by simp [op0], by simp [op0]⟩, by simp, by simp; omega⟩
theorem l2Op_con (l : Bs) (p : Int) (t : List Ent) (hp : 0 ≤ p ∧ p ≤ 1000000) (hl : l.length ≤ 2000) (ht : t.length ≤ 100) (hb : bndE 100 t) : Con (E m) 19 1 [.bp 0 0, .sl (t.map Ent.c)] [(0, rd l p)] (.agg (l2OpV m l p t).1.c) [(0, rd l (l2OpV m l p t).2)] := by
  have h : ∃ x : Opn × Int, (x.1.path.length ≤ 100 ∧ x.1.to.length ≤ 100 ∧ x.1.data.length ≤ 100) ∧ p ≤ x.2 ∧ x.2 ≤ p + 12 ∧ Con (E m) 19 1 [.bp 0 0, .sl (t.map Ent.c)] [(0, rd l p)] (.agg x.1.c) [(0, rd l x.2)] := by
    obtain ⟨d, S', ⟨o, p', h1, h2, h3, rfl, rfl⟩, hc⟩ := l2Op_raw (m := m) l p t hp hl ht hb
    exact ⟨(o, p'), h1, h2, h3, hc⟩
  unfold l2OpV
  rw [dif_pos h]
  exact h.choose_spec.2.2.2
end Go.Proofs.Ytplhgbcpeohpgaa
