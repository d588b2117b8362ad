/- An abstract reading of the elaborated code. Part 4: types, loads. -/
import Derived.Test.YtgeieehampfkcaaDoorBc
namespace Go.Ab
open Go Go.RowKit

variable {P : Program}
/-- what is asked of the table of types -/
def zeroEq : D → Value → Bool
  | .b x, .bool y => x == y
  | .k kd m, .int kd' n => decide (kd = kd') && decide (m = n)
  | .s l, .string s => l == s.data.toList
  | .nil, .slice none 0 0 => true
  | _, _ => false
def zerosEq : List D → List Value → Bool
  | [], [] => true
  | d :: r, v :: q => zeroEq d v && zerosEq r q
  | _, _ => false
def zeroChk (d : D) (v : Value) : Bool :=
  match d, v with
  | .agg ds, .agg us => zerosEq ds us.toList
  | d, v => zeroEq d v
def placesChk (P : Program) : List (Nat × Nat) → List Field → Bool
  | [], [] => true
  | (o, z) :: r, f :: fs => Nat.beq f.offset o && Nat.beq (P.cellsOf f.type) z && Nat.blt 0 z && placesChk P r fs
  | _, _ => false
def kindChk (P : Program) (t : TypeId) (k : TK) : Bool :=
  match k, P.underlying t with
  | .str, some .string => true
  | .int kd, some (.int kd') => decide (kd = kd')
  | .bool, some .bool => true
  | .slice e, some (.slice e') => Nat.beq e e'
  | .struct pl, some (.struct fs) => placesChk P pl fs.toList
  | .parr n e, some (.array m e') => Nat.beq n m && Nat.beq e e'
  | .other, some (.struct _) => false
  | .other, some (.array _ _) => false
  | .other, some _ => true
  | _, _ => false
/-- '==' at this type goes over its cells -/
def eqFields (P : Program) (rec : TypeId → Option (List Nat)) : List Field → Nat → Nat → Option (List Nat)
  | [], off, n => if Nat.beq off n then some [] else none
  | f :: fs, off, n => match f.name != "_" && Nat.beq f.offset off && Nat.blt 0 (P.cellsOf f.type), rec f.type with
    | true, some c => match eqFields P rec fs (off + P.cellsOf f.type) n with
      | some r => if Nat.beq c.length (P.cellsOf f.type) then some (c ++ r) else none
      | none => none
    | _, _ => none
def eqCodes (P : Program) : Nat → TypeId → Option (List Nat)
  | 0, _ => none
  | d + 1, t => match P.underlying t with
    | some .string => if Nat.beq (P.cellsOf t) 1 then some [2] else none
    | some .bool => if Nat.beq (P.cellsOf t) 1 then some [0] else none
    | some (.int _) => if Nat.beq (P.cellsOf t) 1 then some [1] else none
    | some (.struct fs) => if P.stoodInHeld t then none else eqFields P (eqCodes P d) fs.toList 0 (P.cellsOf t)
    | _ => none
def eqChk (P : Program) (t : TypeId) (c : Option (List Nat)) : Bool :=
  match c with
  | none => true
  | some c => (match P.underlying t with | some (.struct _) => true | _ => false) && decide (eqCodes P 5 t = some c) && !P.eqGuardType P.depth t
def tyChk (P : Program) (t : TypeId) (td : TD) : Bool :=
  match P.info? t with
  | some i => Nat.beq i.size td.size && Nat.beq i.bytes td.bytes && Nat.blt 0 td.size && Nat.beq (cellsOf td.zero).length td.size &&
      (match i.zero with | some v => zeroChk td.zero v | none => false) && kindChk P t td.kind && eqChk P t td.eqv
  | none => false
def tysChk (P : Program) (tys : List (Nat × TD)) : Bool := tys.all fun (t, td) => tyChk P t td

def TyOk (E : Env) : Prop := ∀ t td, E.ty t = some td → tyChk E.P t td = true
theorem tyOk_of {E : Env} {tys : List (Nat × TD)} (ht : E.ty = lk tys) (h : tysChk E.P tys = true) : TyOk E := by
  intro t td hl
  rw [ht] at hl
  exact List.all_eq_true.1 h _ (lk_mem hl)

section
variable {E : Env} (hty : TyOk E)
include hty
theorem TyOk.info {t : TypeId} {td : TD} (h : E.ty t = some td) : ∃ i v, E.P.info? t = some i ∧ i.size = td.size ∧ i.bytes = td.bytes ∧ i.zero = some v ∧ 0 < td.size ∧ (cellsOf td.zero).length = td.size ∧ zeroChk td.zero v = true ∧ kindChk E.P t td.kind = true := by
  have := hty t td h
  unfold tyChk at this
  split at this
  · rename_i i hi
    simp only [Bool.and_eq_true] at this
    obtain ⟨⟨⟨⟨⟨⟨h1, h2⟩, h3⟩, h4⟩, h5⟩, h6⟩, _⟩ := this
    split at h5
    · rename_i v hv
      exact ⟨i, v, hi, Nat.eq_of_beq_eq_true h1, Nat.eq_of_beq_eq_true h2, hv, Nat.le_of_ble_eq_true h3, Nat.eq_of_beq_eq_true h4, h5, h6⟩
    · cases h5
  · cases this
theorem TyOk.eqv {t : TypeId} {td : TD} {c : List Nat} (h : E.ty t = some td) (he : td.eqv = some c) : eqCodes E.P 5 t = some c ∧ E.P.eqGuardType E.P.depth t = false ∧ ∃ fs, E.P.underlying t = some (.struct fs) := by
  have := hty t td h
  unfold tyChk at this
  split at this
  · simp only [Bool.and_eq_true, he, eqChk] at this
    obtain ⟨_, ⟨h1, h2⟩, h3⟩ := this
    refine ⟨of_decide_eq_true h2, by simpa using h3, ?_⟩
    split at h1
    · exact ⟨_, by assumption⟩
    · cases h1
  · cases this
theorem TyOk.cells {t : TypeId} {td : TD} (h : E.ty t = some td) : E.P.cellsOf t = td.size := by
  obtain ⟨i, v, hi, hs, _⟩ := hty.info h
  simp [Program.cellsOf, hi, hs]
end

theorem zeroEq_VI {w : World} {Av : Nat → Prop} {d : D} {v : Value} (h : zeroEq d v = true) : VI w Av d v := by
  unfold zeroEq at h
  split at h <;> try (cases h; done)
  · simp at h; subst h; exact .b _
  · simp at h; obtain ⟨rfl, rfl⟩ := h; exact .k _ _
  · rename_i l s
    have h' : l = s.data.toList := by simpa using h
    have : s = ⟨l.toArray⟩ := by subst h'; cases s; simp
    rw [this]
    exact .s _
  · exact .nil
theorem zeroEq_atom {d : D} {v : Value} (h : zeroEq d v = true) : (∀ ds, d ≠ .agg ds) ∧ v.cells = #[v] ∧ cellsOf d = [d] := by
  unfold zeroEq at h
  split at h <;> try (cases h; done)
  all_goals exact ⟨by simp, rfl, rfl⟩
theorem zerosEq_VI {w : World} {Av : Nat → Prop} : ∀ {ds : List D} {us : List Value}, zerosEq ds us = true →
    ds.length = us.length ∧ (∀ u ∈ us, u.oneCell' = true) ∧ ∀ (i : Nat) (d : D) (u : Value), ds[i]? = some d → us[i]? = some u → VI w Av d u
  | [], [], _ => ⟨rfl, by simp, by simp⟩
  | [], _ :: _, h => by simp [zerosEq] at h
  | _ :: _, [], h => by simp [zerosEq] at h
  | d :: r, v :: q, h => by
    simp only [zerosEq, Bool.and_eq_true] at h
    obtain ⟨h1, h2⟩ := h
    obtain ⟨i1, i2, i3⟩ := zerosEq_VI (w := w) (Av := Av) h2
    refine ⟨by simp [i1], ?_, ?_⟩
    · intro u hu
      rcases List.mem_cons.1 hu with rfl | hu
      · exact (zeroEq_VI (w := w) (Av := Av) h1).one (zeroEq_atom h1).1
      · exact i2 u hu
    · intro i d' u' hd hu
      cases i with
      | zero => simp at hd hu; subst hd hu; exact zeroEq_VI h1
      | succ i => exact i3 i d' u' (by simpa using hd) (by simpa using hu)

/-- the cells of a value, and what is known of them -/
structure Cs (w : World) (Av : Nat → Prop) (ρ : Nat → Option Value) (ds : List D) (us : List Value) : Prop where
  len : ds.length = us.length
  one : ∀ u ∈ us, u.oneCell' = true
  at_ : ∀ (i : Nat) (d : D) (u : Value), ds[i]? = some d → us[i]? = some u → VA w Av ρ d u
theorem cells_one {u : Value} (h : u.oneCell' = true) : u.cells = #[u] := by cases u <;> first | rfl | (simp [Value.oneCell'] at h)
theorem VG.cells {w : World} {Av : Nat → Prop} {ρ : Nat → Option Value} {d : D} {u : Value} (h : VG w Av ρ d u) : Cs w Av ρ (cellsOf d) u.cells.toList := by
  have atom : ∀ d u, VA w Av ρ d u → (∀ ds, d ≠ .agg ds) → Cs w Av ρ (cellsOf d) u.cells.toList := by
    intro d u h hd
    have h1 := h.one hd
    have hc : cellsOf d = [d] := by cases d <;> first | rfl | exact absurd rfl (hd _)
    rw [cells_one h1, hc]
    refine ⟨rfl, by simpa using h1, fun i d' u' a b => ?_⟩
    cases i with
    | zero => simp at a b; subst a b; exact h
    | succ i => simp at a
  cases h with
  | atom h =>
    by_cases hd : ∃ ds, d = .agg ds
    · obtain ⟨ds, rfl⟩ := hd
      cases h with
      | im h =>
        cases h with
        | agg hl h1 hr => exact ⟨by simpa [cellsOf, Value.cells] using hl, by simpa [Value.cells] using h1, fun i d u a b => .im (hr i d u a (by simpa [Value.cells] using b))⟩
    · exact atom d u h (fun ds e => hd ⟨ds, e⟩)
  | agg hl h1 h => exact ⟨by simpa [cellsOf, Value.cells] using hl, by simpa [Value.cells] using h1, fun i d u a b => h i d u a (by simpa [Value.cells] using b)⟩

theorem zeroChk_cells {w : World} {Av : Nat → Prop} {ρ : Nat → Option Value} {d : D} {v : Value} (h : zeroChk d v = true) : Cs w Av ρ (cellsOf d) v.cells.toList ∧ ∀ (i : Nat) (d' : D) (u : Value), (cellsOf d)[i]? = some d' → v.cells.toList[i]? = some u → VI w Av d' u := by
  unfold zeroChk at h
  split at h
  · obtain ⟨h1, h2, h3⟩ := zerosEq_VI (w := w) (Av := Av) h
    exact ⟨⟨by simpa [cellsOf, Value.cells] using h1, by simpa [Value.cells] using h2, fun i d u a b => .im (h3 i d u a (by simpa [Value.cells] using b))⟩, fun i d u a b => h3 i d u a (by simpa [Value.cells] using b)⟩
  · obtain ⟨h1, h2, h3⟩ := zeroEq_atom h
    have hv := zeroEq_VI (w := w) (Av := Av) h
    rw [h2, h3]
    refine ⟨⟨rfl, by simpa using hv.one h1, ?_⟩, ?_⟩ <;> intro i d' u a b <;> cases i <;> simp at a b <;> subst a b <;> first | exact .im hv | exact hv

theorem list_of {α β : Type} (p : Nat → α → β → Prop) : ∀ (ds : List α), (∀ (j : Nat) (d : α), ds[j]? = some d → ∃ u, p j d u) → ∃ us : List β, us.length = ds.length ∧ ∀ (j : Nat) (d : α) (u : β), ds[j]? = some d → us[j]? = some u → p j d u
  | [], _ => ⟨[], rfl, by simp⟩
  | d :: r, h => by
    obtain ⟨u, hu⟩ := h 0 d rfl
    obtain ⟨us, h1, h2⟩ := list_of (fun j => p (j + 1)) r (fun j d' hd => h (j + 1) d' (by simpa using hd))
    refine ⟨u :: us, by simp [h1], fun j d' u' a b => ?_⟩
    cases j with
    | zero => simp at a b; subst a b; exact hu
    | succ j => exact h2 j d' u' (by simpa using a) (by simpa using b)

theorem add_zero (a : Addr) : a.add 0 = a := rfl
theorem add_mk (b o j : Nat) : (⟨b, o, none⟩ : Addr).add j = ⟨b, o + j, none⟩ := by unfold Addr.add; split <;> simp_all
theorem add_add (a : Addr) (i j : Nat) : (a.add i).add j = a.add (i + j) := by
  unfold Addr.add
  by_cases hi : i = 0 <;> by_cases hj : j = 0 <;> simp [hi, hj, Nat.add_assoc]

section
variable {E : Env} (hty : TyOk E) {w : World}
include hty
theorem isAgg_run {t : TypeId} {td : TD} (h : E.ty t = some td) : (isAgg t).run E.P w = .ok (isAggK td.kind) w := by
  obtain ⟨i, v, _, _, _, _, _, _, _, hk⟩ := hty.info h
  unfold kindChk at hk
  split at hk <;> (try (cases hk; done)) <;> rename_i hq hu <;> rw [hq] <;> first
    | simp [isAgg, run_underlying hu, isAggK]
    | (rename_i d _ _ ; cases d <;> first | (simp_all; done) | simp [isAgg, run_underlying hu, isAggK])
theorem sizeOf_run {t : TypeId} {td : TD} (h : E.ty t = some td) : (Go.sizeOf t).run E.P w = .ok td.size w := by
  obtain ⟨i, v, hi, hs, _⟩ := hty.info h
  simp [Go.sizeOf, typeInfo, hi, hs]
theorem zero_run {t : TypeId} {td : TD} (h : E.ty t = some td) : ∃ v, (zeroValue t).run E.P w = .ok v w ∧ zeroChk td.zero v = true := by
  obtain ⟨i, v, hi, hs, _, hz, _, _, hc, _⟩ := hty.info h
  exact ⟨v, by simp [zeroValue, typeInfo, hi, hz], hc⟩

theorem loadK_run {Av : Nat → Prop} {ρ : Nat → Option Value} {t : TypeId} {td : TD} (h : E.ty t = some td) {ad : Addr} {ds : List D} {K : D → Prop}
    (hc : ∀ (j : Nat) (d : D), ds[j]? = some d → ∃ u, w.cell? (ad.add j) = some u ∧ u.oneCell' = true ∧ VA w Av ρ d u) (hk : loadK td ds K) :
    ∃ d v, (loadVar t ad).run E.P w = .ok v w ∧ VG w Av ρ d v ∧ K d := by
  unfold loadK at hk
  split at hk
  · rename_i hagg
    split at hk
    · rename_i hle
      have hle : td.size ≤ ds.length := Nat.le_of_ble_eq_true hle
      obtain ⟨us, h1, h2⟩ := list_of (fun (j : Nat) (d : D) (u : Value) => w.cell? (ad.add j) = some u ∧ u.oneCell' = true ∧ VA w Av ρ d u) (ds.take td.size) (fun j d hd => hc j d (by
        rw [List.getElem?_take] at hd; split at hd <;> first | exact hd | cases hd))
      have hlen : us.length = td.size := by rw [h1, List.length_take]; omega
      have hall : ∀ (j : Nat) (u : Value), us[j]? = some u → ∃ d, (ds.take td.size)[j]? = some d := by
        intro j u hu
        have : j < us.length := (List.getElem?_eq_some_iff.1 hu).1
        exact ⟨_, List.getElem?_eq_getElem (by omega)⟩
      refine ⟨_, .agg us.toArray, ?_, .agg h1.symm ?_ (fun j d u a b => (h2 j d u a b).2.2), hk⟩
      · have := run_loadCells_list (P := E.P) w ad us (fun j u hu => by obtain ⟨d, hd⟩ := hall j u hu; exact (h2 j d u hd hu).1)
        rw [hlen] at this
        simp [loadVar, isAgg_run hty h, hagg, sizeOf_run hty h, this]
      · intro u hu
        obtain ⟨j, hj⟩ := List.mem_iff_getElem?.1 hu
        obtain ⟨d, hd⟩ := hall j u hj
        exact (h2 j d u hd hj).2.1
    · exact hk.elim
  · rename_i hagg
    split at hk
    · rename_i d r
      obtain ⟨u, hu, h1, hv⟩ := hc 0 d rfl
      refine ⟨d, u, ?_, .atom hv, hk⟩
      have : w.cell? ad = some u := hu
      simp [loadVar, isAgg_run hty h, hagg, run_load, this]
    · exact hk.elim
end

section
variable {E : Env} {cx : Cx} {tm : Tm} {S : Store} {a : Act} {w : World} {ρ : Nat → Option Value}

theorem VI.ep_inv {Av : Nat → Prop} {cs : List D} {v : Value} (h : VI w Av (.ep cs) v) : ∃ ad, v = .pointer (some ad) ∧ ad.block < w.heap.size ∧ ¬ Av ad.block ∧
    ∀ (j : Nat) (d : D), cs[j]? = some d → ∃ u, w.cell? (ad.add j) = some u ∧ u.oneCell' = true ∧ VI w Av d u := by
  cases h with
  | ep U hb hav hcell h1 hrec => exact ⟨_, rfl, hb, hav, fun j d hd => ⟨U j, hcell j d hd, h1 j d hd, hrec j d hd⟩⟩
theorem VR.ep_inv {Av : Nat → Prop} {cs : List D} {v : Value} (h : VR w Av ρ (.ep cs) v) : VI w Av (.ep cs) v := by
  cases h with
  | gr h => cases h with
    | atom h => cases h with
      | im h => exact h
theorem VR.bp_inv {Av : Nat → Prop} {n off : Nat} {v : Value} (h : VR w Av ρ (.bp n off) v) : ∃ b, ρ n = some (.pointer (some ⟨b, 0, none⟩)) ∧ v = .pointer (some ⟨b, off, none⟩) := by
  cases h with
  | gr h => cases h with
    | atom h => cases h with
      | im h => cases h
      | bp h => exact ⟨_, h, rfl⟩
theorem VR.op_inv {Av : Nat → Prop} {n sz i off : Nat} {v : Value} (h : VR w Av ρ (.op n sz i off) v) : ∃ g len c, ρ n = some (.slice (some ⟨g, 0, none⟩) len c) ∧ v = .pointer (some ⟨g, i * sz + off, none⟩) := by
  cases h with
  | gr h => cases h with
    | atom h => cases h with
      | im h => cases h
      | op h => exact ⟨_, _, _, h, rfl⟩
theorem VR.own_inv {Av : Nat → Prop} {n : Nat} {v : Value} (h : VR w Av ρ (.own n) v) : ρ n = some v := by
  cases h with
  | gr h => cases h with
    | atom h => cases h with
      | im h => cases h
      | own h => exact h
theorem VR.k_inv {Av : Nat → Prop} {kd : IntKind} {n : Int} {v : Value} (h : VR w Av ρ (.k kd n) v) : v = .int kd n := by
  cases h with
  | gr h => cases h with
    | atom h => cases h with
      | im h => cases h; rfl
theorem VR.b_inv {Av : Nat → Prop} {x : Bool} {v : Value} (h : VR w Av ρ (.b x) v) : v = .bool x := by
  cases h with
  | gr h => cases h with
    | atom h => cases h with
      | im h => cases h; rfl
theorem VR.s_inv {Av : Nat → Prop} {l : List UInt8} {v : Value} (h : VR w Av ρ (.s l) v) : v = .string ⟨l.toArray⟩ := by
  cases h with
  | gr h => cases h with
    | atom h => cases h with
      | im h => cases h; rfl
theorem VR.nil_inv {Av : Nat → Prop} {v : Value} (h : VR w Av ρ .nil v) : v = .slice none 0 0 := by
  cases h with
  | gr h => cases h with
    | atom h => cases h with
      | im h => cases h; rfl
theorem VR.sl_inv {Av : Nat → Prop} {xs : List (List D)} {v : Value} (h : VR w Av ρ (.sl xs) v) : VI w Av (.sl xs) v := by
  cases h with
  | gr h => cases h with
    | atom h => cases h with
      | im h => exact h
theorem VI.sl_inv {Av : Nat → Prop} {xs : List (List D)} {v : Value} (h : VI w Av (.sl xs) v) : ∃ A n c, v = .slice A n c ∧ xs.length = n ∧ n ≤ c ∧ c ≤ maxLen ∧ (A = none → xs = []∧ c = 0) ∧
    ∀ ad, A = some ad → (xs ≠ [] → ad.block < w.heap.size) ∧ (xs ≠ [] → ¬ Av ad.block) ∧ ∃ sz, (∀ cs ∈ xs, cs.length = sz) ∧ ∀ (i j : Nat) (cs : List D) (d : D), xs[i]? = some cs → cs[j]? = some d → ∃ u, w.cell? (ad.add (i * sz + j)) = some u ∧ u.oneCell' = true ∧ VI w Av d u := by
  cases h with
  | sl0 => exact ⟨none, 0, 0, rfl, rfl, Nat.le_refl _, Nat.zero_le _, fun _ => ⟨rfl, rfl⟩, fun ad h => by cases h⟩
  | sl U hn hnc hc hb hav hsz hcell h1 hrec =>
    exact ⟨_, _, _, rfl, hn, hnc, hc, fun h => (by cases h), fun ad h => by cases h; exact ⟨hb, hav, _, hsz, fun i j cs d a b => ⟨_, hcell i j cs d a b, h1 i j cs d a b, hrec i j cs d a b⟩⟩⟩

theorem szK_inv {e : TypeId} {sz : Nat} {K : Prop} (h : szK E e sz K) : ∃ te, E.ty e = some te ∧ te.size = sz ∧ K := by
  unfold szK at h
  split at h
  · rename_i te hte
    split at h
    · rename_i hb
      exact ⟨te, hte, Nat.eq_of_beq_eq_true hb, h⟩
    · exact h.elim
  · exact h.elim

variable (hty : TyOk E)
include hty
theorem addrK_run (h : R E cx tm S a w ρ) {t : TypeId} {td : TD} (ht : E.ty t = some td) {d : D} {v : Value} (hv : VR w (AvS cx.G S ρ) ρ d v) {K : D → Prop} (hk : addrK E S d td K) :
    ∃ d' u, (Instr.loadAt t v).run E.P w = .ok u w ∧ VG w (AvS cx.G S ρ) ρ d' u ∧ K d' := by
  unfold addrK at hk
  split at hk
  · rename_i n off
    split at hk
    · rename_i e cs hl
      obtain ⟨b, hr, rfl⟩ := hv.bp_inv
      obtain ⟨b', us, hr', hh, hlen, h1, hc⟩ := h.st _ _ hl
      rw [hr] at hr'
      simp at hr'
      subst hr'
      obtain ⟨d', u, hrun, hg, hK⟩ := loadK_run hty ht (ad := ⟨b, off, none⟩) (Av := AvS cx.G S ρ) (ρ := ρ) (fun j d hd => by
        rw [List.getElem?_drop] at hd
        have hlt : off + j < us.length := by rw [← hlen]; exact (List.getElem?_eq_some_iff.1 hd).1
        refine ⟨us[off + j], ?_, h1 _ (List.getElem_mem hlt), hc _ _ _ hd (List.getElem?_eq_getElem hlt)⟩
        rw [add_mk, cell_of_row w b _ _ _ _ hh]
        simp [hlt]) hk
      exact ⟨d', u, by simp [Instr.loadAt, Instr.sureAddr, hrun], hg, hK⟩
    · exact hk.elim
  · rename_i cs
    obtain ⟨ad, rfl, hb, hav, hc⟩ := hv.ep_inv.ep_inv
    obtain ⟨d', u, hrun, hg, hK⟩ := loadK_run hty ht (ad := ad) (Av := AvS cx.G S ρ) (ρ := ρ) (fun j d hd => let ⟨u, a1, a2, a3⟩ := hc j d hd; ⟨u, a1, a2, .im a3⟩) hk
    exact ⟨d', u, by simp [Instr.loadAt, Instr.sureAddr, hrun], hg, hK⟩
  · rename_i n sz i off
    have key : ∀ (e : TypeId) (xs : List (List D)) (u0 : Value) (us : List Value), ρ n = some u0 → w.ownsRow 0 e (E.P.cellsOf e) u0 xs.length us → Rows (VA w (AvS cx.G S ρ) ρ) (E.P.cellsOf e) xs us →
        szK E e sz (∃ cs, xs[i]? = some cs ∧ loadK td (cs.drop off) K) → ∃ d' u, (Instr.loadAt t v).run E.P w = .ok u w ∧ VG w (AvS cx.G S ρ) ρ d' u ∧ K d' := by
      intro e xs u0 us hr' ho hc hk
      obtain ⟨te, hte, hsz, cs, hcs, hk⟩ := szK_inv hk
      obtain ⟨g, len, c, hr, rfl⟩ := hv.op_inv
      have hz : E.P.cellsOf e = sz := by rw [hty.cells hte, hsz]
      rw [hr] at hr'
      simp at hr'
      subst hr'
      obtain ⟨d', u, hrun, hg, hK⟩ := loadK_run hty ht (ad := ⟨g, i * sz + off, none⟩) (Av := AvS cx.G S ρ) (ρ := ρ) (fun j d hd => by
        rw [List.getElem?_drop] at hd
        obtain ⟨u, hu, hv⟩ := hc.at_ i (off + j) cs d hcs hd
        rw [hz] at hu
        have hlt := (List.getElem?_eq_some_iff.1 hu).1
        refine ⟨u, ?_, hc.one _ (List.mem_of_getElem? hu), hv⟩
        have := ho.cells (g := g) rfl _ _ hu
        rw [add_mk] at this ⊢
        simpa [Nat.add_assoc] using this) hk
      exact ⟨d', u, by simp [Instr.loadAt, Instr.sureAddr, hrun], hg, hK⟩
    split at hk
    · rename_i e xs hl
      obtain ⟨u0, us, hr', ho, hc⟩ := h.st _ _ hl
      exact key e xs u0 us hr' ho (hc.mono fun _ _ h => .im h) hk
    · rename_i e xs hl
      obtain ⟨u0, us, hr', ho, hc⟩ := h.st _ _ hl
      exact key e xs u0 us hr' ho hc hk
    · exact hk.elim
  · exact hk.elim
end
end Go.Ab
