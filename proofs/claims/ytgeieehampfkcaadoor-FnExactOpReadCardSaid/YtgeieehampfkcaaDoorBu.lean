/- Shapes of arguments, opened; and steps that the runs of a seat share. -/
import Derived.Test.YtgeieehampfkcaaDoorBt
namespace Go.Ab
open Go Go.RowKit
/-! shapes, opened -/
section
variable {P : Program}
theorem Shp.str_inv {t : TypeId} {ds : List D} (hu : P.underlying t = some .string) (h : Shp P t ds) : ∃ l : List UInt8, ds = [.s l] ∧ l.length ≤ maxLen := by
  cases h with
  | str h l hl => exact ⟨l, rfl, hl⟩
  | int h => rw [hu] at h; cases h
  | bool h => rw [hu] at h; cases h
  | slice h => rw [hu] at h; cases h
  | struct h => rw [hu] at h; cases h
theorem Shp.int_inv {t : TypeId} {ds : List D} {k : IntKind} (hu : P.underlying t = some (.int k)) (h : Shp P t ds) : ∃ n : Int, ds = [.k k n] ∧ (Lit.int k n).wf = true := by
  cases h with
  | str h => rw [hu] at h; cases h
  | int h n hn => rw [hu] at h; cases h; exact ⟨n, rfl, hn⟩
  | bool h => rw [hu] at h; cases h
  | slice h => rw [hu] at h; cases h
  | struct h => rw [hu] at h; cases h
theorem Shp.bool_inv {t : TypeId} {ds : List D} (hu : P.underlying t = some .bool) (h : Shp P t ds) : ∃ b : Bool, ds = [.b b] := by
  cases h with
  | str h => rw [hu] at h; cases h
  | int h => rw [hu] at h; cases h
  | bool h b => exact ⟨b, rfl⟩
  | slice h => rw [hu] at h; cases h
  | struct h => rw [hu] at h; cases h
theorem Shp.slice_inv {t e : TypeId} {ds : List D} (hu : P.underlying t = some (.slice e)) (h : Shp P t ds) : ∃ xs : List (List D), ds = [.sl xs] ∧ xs.length ≤ maxLen ∧ ∀ cs ∈ xs, Shp P e cs := by
  cases h with
  | str h => rw [hu] at h; cases h
  | int h => rw [hu] at h; cases h
  | bool h => rw [hu] at h; cases h
  | slice h xs hl hx => rw [hu] at h; cases h; exact ⟨xs, rfl, hl, hx⟩
  | struct h => rw [hu] at h; cases h
/-- the cells of a row of fields -/
def ShpF (P : Program) : List TypeId → List D → Prop
  | [], ds => ds = []
  | t :: ts, ds => ∃ a b, ds = a ++ b ∧ Shp P t a ∧ ShpF P ts b
theorem shpF_of {ts : List TypeId} : ∀ {dss : List (List D)}, dss.length = ts.length → (∀ (i : Nat) (t : TypeId) (ds : List D), ts[i]? = some t → dss[i]? = some ds → Shp P t ds) → ShpF P ts dss.flatten := by
  induction ts with
  | nil => intro dss hl _; match dss, hl with | [], _ => rfl
  | cons t ts ih =>
    intro dss hl hx
    match dss, hl with
    | d :: dss, hl =>
      exact ⟨d, dss.flatten, rfl, hx 0 t d rfl rfl, ih (by simpa using hl) fun i t ds h1 h2 => hx (i + 1) t ds (by simpa using h1) (by simpa using h2)⟩
theorem Shp.struct_inv {t : TypeId} {ds : List D} {fs : Array Field} (hu : P.underlying t = some (.struct fs)) (h : Shp P t ds) : ShpF P (fs.toList.map (·.type)) ds := by
  cases h with
  | str h => rw [hu] at h; cases h
  | int h => rw [hu] at h; cases h
  | bool h => rw [hu] at h; cases h
  | slice h => rw [hu] at h; cases h
  | struct h dss hl hx =>
    rw [hu] at h; cases h
    refine shpF_of (by simpa using hl) fun i t ds h1 h2 => ?_
    simp only [List.getElem?_map, Option.map_eq_some_iff] at h1
    obtain ⟨f, hf, rfl⟩ := h1
    exact hx i f ds hf h2
theorem ShpV.one {t : TypeId} {d : D} (hu : ∀ fs, P.underlying t ≠ some (.struct fs)) (h : ShpV P t d) : Shp P t [d] := by
  unfold ShpV at h
  split at h
  · rename_i fs hf; exact absurd hf (hu fs)
  · exact h
theorem ShpV.struct {t : TypeId} {d : D} {fs : Array Field} (hu : P.underlying t = some (.struct fs)) (h : ShpV P t d) : ∃ ds, d = .agg ds ∧ ShpF P (fs.toList.map (·.type)) ds := by
  unfold ShpV at h
  rw [hu] at h
  obtain ⟨ds, rfl, h⟩ := h
  exact ⟨ds, rfl, h.struct_inv hu⟩
theorem readB_mem {ts : List TypeId} (h : (ts.all fun t => P.readableRec t && Nat.blt t P.types.size) = true) : ∀ t ∈ ts, P.readableRec t = true ∧ t < P.types.size := by
  intro t ht
  have := List.all_eq_true.1 h t ht
  simp only [Bool.and_eq_true] at this
  exact ⟨this.1, Nat.le_of_ble_eq_true this.2⟩
end
end Go.Ab
