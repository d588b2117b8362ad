/- What the laws' texts of this seat share. -/
import Derived.Test.YtoaiplobfellaaaGreatDoorRK
import Derived.Test.YtoaiplobfellaaaGreatDoorRX2
import Derived.Test.YtoaiplobfellaaaGreatDoorSh
import Derived.Test.YtoaiplobfellaaaGreatDoorTie
import Derived.Test.YtoaiplobfellaaaGreatDoorCards
import Derived.ProofKit
import Derived.LaidMore
import Derived.Lay
import Derived.SevenTiedAt
import Derived.Stop.Joined
set_option linter.unusedSimpArgs false
set_option linter.unusedVariables false
set_option maxHeartbeats 1000000
set_option maxRecDepth 100000
namespace Go.Proofs.YtoaiplobfellaaaGreatDoor
open Go Go.RowKit Go.Ab
variable {m : Int}
theorem gl_m {W : World} (hm : W.cell? ⟨1, 0, none⟩ = some (.int .i64 m)) : ∀ g cs, (E m).gl g = some cs → VI W noAv (.ep cs) (.pointer (some ⟨g, 0, none⟩)) := by
  intro g cs h
  have h' : lk (gls m) g = some cs := h
  unfold gls at h'
  rw [lk_cons] at h'
  split at h'
  · rename_i hg
    subst hg
    cases h'
    exact gl_one hm rfl (.k _ _)
  · simp [lk] at h'
theorem maxLen_shaped (W : World) (h : W.ShapedOpen Tryz.prog) : ∃ m, W.cell? ⟨1, 0, none⟩ = some (.int .i64 m) :=
  Go.Proofs.cell_of_shapedOpen_int (zero := #[.int .i64 0]) (t := 3) h (of_decide_eq_true (by kernel_rfl)) (by kernel_rfl) rfl (by kernel_rfl) (by kernel_rfl) Tryz.underlying3
theorem bytes_cells : ∀ (xs : List (List D)), (∀ cs ∈ xs, Shp Tryz.prog 5 cs) → ∃ l : List UInt8, xs = bytesOf l
  | [], _ => ⟨[], rfl⟩
  | cs :: xs, h => by
    obtain ⟨n, rfl, hn⟩ := (h cs (by simp)).int_inv Tryz.underlying5
    obtain ⟨l, rfl⟩ := bytes_cells xs fun c hc => h c (by simp [hc])
    simp only [Lit.wf, Bool.and_eq_true, decide_eq_true_eq] at hn
    have h1 : 0 ≤ n := hn.1
    have h2 : n ≤ 255 := hn.2
    refine ⟨UInt8.ofNat n.toNat :: l, ?_⟩
    have : ((UInt8.ofNat n.toNat).toNat : Int) = n := by
      rw [UInt8.toNat_ofNat']
      omega
    simp only [bytesOf, List.map_cons, this]
theorem bytes_shp {d : D} (h : ShpV Tryz.prog 36 d) : ∃ l : List UInt8, d = .sl (bytesOf l) := by
  have h1 := h.one (fun fs => by rw [Tryz.underlying36]; simp)
  obtain ⟨xs, hx, hl, hc⟩ := h1.slice_inv Tryz.underlying36
  obtain ⟨l, rfl⟩ := bytes_cells xs hc
  cases hx
  exact ⟨l, rfl⟩
end Go.Proofs.YtoaiplobfellaaaGreatDoor
