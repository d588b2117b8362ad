/- Contracts of library functions, out of the shelf's. -/
import Derived.Test.YtoaiplobfellaaaGreatDoorRLb
import Derived.Test.YtoaiplobfellaaaGreatDoorSh
set_option linter.unusedSimpArgs false
set_option linter.unusedVariables false
set_option maxHeartbeats 1000000
set_option maxRecDepth 10000
namespace Go.Proofs.YtoaiplobfellaaaGreatDoor
open Go Go.RowKit Go.Ab Go.Par
variable {m : Int}
theorem maxLen_cell {w : World} {Av : Nat → Prop} {cds : List D} {vs : List Value} (h : Meets (E m) w Av cds vs) : w.cell? ⟨1, 0, none⟩ = some (.int .i64 m) := by
  obtain ⟨ad, he, _, _, hc⟩ := (h.gl 1 [.k .i64 m] rfl).ep_inv
  cases he
  obtain ⟨u, hu, _, hv⟩ := hc 0 (.k .i64 m) rfl
  have : u = .int .i64 m := by
    cases hv with
    | k => rfl
  rw [this] at hu
  exact hu
theorem ba_of (b : ByteArray) : (⟨b.data.toList.toArray⟩ : ByteArray) = b := by
  cases b; simp
theorem split_list (c : UInt8) (s : Bs) : (Lib.splitB ⟨#[c]⟩ 0 (Lib.countB ⟨s.toArray⟩ ⟨#[c]⟩) ⟨s.toArray⟩).map Value.string = (cut c s).map fun l => Value.string ⟨l.toArray⟩ := by
  have h := Lib.splitB_data ⟨#[c]⟩ 0 (Lib.countB ⟨s.toArray⟩ ⟨#[c]⟩) ⟨s.toArray⟩
  have h2 : Lib.splitK [c] 0 (Lib.countB ⟨s.toArray⟩ ⟨#[c]⟩) s = cut c s := split_eq c s
  have h3 : (Lib.splitB ⟨#[c]⟩ 0 (Lib.countB ⟨s.toArray⟩ ⟨#[c]⟩) ⟨s.toArray⟩).map (·.data.toList) = cut c s := by
    rw [h]
    exact h2
  rw [← h3, List.map_map]
  refine List.map_congr_left fun b _ => ?_
  simp only [Function.comp, ba_of]
theorem split_con (s : Bs) (c : UInt8) (hs : s.length < 4294967281) : Con (E m) 119 0 [.s s, .s [c]] [] (.own 0) [(0, .own 9 ((cut c s).map fun l => [.s l]))] := by
  have hcl := cut_len c s
  refine con_strs (by kernel_rfl) ⟨_, Tryz.func119, rfl, rfl⟩ (by have : maxLen = 9223372036854775807 := rfl; omega) fun w vs Av hM => ?_
  match vs, hM.len, hM with
  | [u0, u1], _, hM =>
    obtain rfl := (hM.arg 0 _ u0 rfl rfl).s_inv
    obtain rfl := (hM.arg 1 _ u1 rfl rfl).s_inv
    have hl := Lib.splitB_all ⟨#[c]⟩ (Nat.le_refl 1) 0 _ (⟨s.toArray⟩ : ByteArray) rfl
    have hl2 := congrArg List.length (split_list c s)
    rw [List.length_map, List.length_map, hl] at hl2
    refine (Tryz.strings_Split ⟨s.toArray⟩ ⟨#[c]⟩ m w (by simpa [ByteArray.size] using hs) (maxLen_cell hM) (Nat.le_refl 1)).mono fun e w' ⟨he, hw⟩ => ?_
    rw [split_list, hl2] at *
    exact ⟨he, hw⟩
theorem join_lib (c : UInt8) : ∀ w : List Bs, Lib.join w [c] = join c w
  | [] => rfl
  | [a] => Lib.join_one a [c]
  | a :: b :: q => by
    have := join_lib c (b :: q)
    simp only [Lib.join, List.intercalate, List.intersperse] at this ⊢
    simp [join, ← this]
theorem join_con (ls : List Bs) (c : UInt8) (h1 : ls.length ≤ 1073741824) (h2 : (join c ls).length ≤ 1073741824) : Con (E m) 197 0 [.sl (ls.map fun l => [.s l]), .s [c]] [] (.s (join c ls)) [] := by
  refine con_fr ⟨_, Tryz.func197, rfl, rfl⟩ fun w vs Av hM => ?_
  match vs, hM.len, hM with
  | [u0, u1], _, hM =>
    obtain rfl := (hM.arg 1 _ u1 rfl rfl).s_inv
    rcases (hM.arg 0 _ u0 rfl rfl).strs with ⟨rfl, a, k, rfl⟩ | ⟨bk, o, k, rfl, hk, hb, hc⟩
    · refine (Tryz.strings_Join_none a k ⟨#[c]⟩ w).mono fun e w' ⟨he, hw⟩ => ?_
      rw [hw]
      exact ⟨Fr.refl _ _, _, he, .gr (.atom (.im (.s [])))⟩
    · have e1 : ((ls.map fun l => (⟨l.toArray⟩ : ByteArray)).map (·.data.toList)) = ls := by simp [Function.comp_def]
      have hJ := Tryz.strings_Join bk o k (ls.map fun l => ⟨l.toArray⟩) ⟨#[c]⟩ w (fun j x hx => by
        simp only [List.getElem?_map, Option.map_eq_some_iff] at hx
        obtain ⟨l, hl, rfl⟩ := hx
        exact hc j l hl) hb (by simp; omega) (by simpa using hk) (by rw [e1]; rw [show (⟨#[c]⟩ : ByteArray).data.toList = [c] from rfl, join_lib]; omega)
      rw [e1, show (⟨#[c]⟩ : ByteArray).data.toList = [c] from rfl, join_lib, List.length_map] at hJ
      refine hJ.mono fun e w' ⟨he, hw⟩ => ?_
      exact ⟨Fr.of_below hw, _, he, .gr (.atom (.im (.s _)))⟩
end Go.Proofs.YtoaiplobfellaaaGreatDoor
