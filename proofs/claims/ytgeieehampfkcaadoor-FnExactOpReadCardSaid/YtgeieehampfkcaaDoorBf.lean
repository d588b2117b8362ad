/- An abstract reading of the elaborated code. Part 6: fields, elements, numbers, strings. -/
import Derived.Test.YtgeieehampfkcaaDoorBe
namespace Go.Ab
open Go Go.RowKit

section
variable {P : Program} {E : Env}
theorem TyOk.kind (hty : TyOk E) {t : TypeId} {td : TD} (h : E.ty t = some td) : kindChk E.P t td.kind = true := by
  obtain ⟨_, _, _, _, _, _, _, _, _, hk⟩ := hty.info h
  exact hk
theorem kind_slice {t e : TypeId} (h : kindChk P t (.slice e) = true) : P.underlying t = some (.slice e) := by
  unfold kindChk at h
  split at h <;> (try (cases h; done)) <;> rename_i h1 h2 <;> (try (cases h1; done))
  cases h1
  rw [h2, Nat.eq_of_beq_eq_true h]
theorem kind_str {t : TypeId} (h : kindChk P t .str = true) : P.underlying t = some .string := by
  unfold kindChk at h
  split at h <;> (try (cases h; done)) <;> rename_i h1 h2 <;> (try (cases h1; done))
  exact h2
theorem kind_int {t : TypeId} {kd : IntKind} (h : kindChk P t (.int kd) = true) : P.underlying t = some (.int kd) := by
  unfold kindChk at h
  split at h <;> (try (cases h; done)) <;> rename_i h1 h2 <;> (try (cases h1; done))
  cases h1
  rw [h2, of_decide_eq_true h]
theorem kind_struct {t : TypeId} {pl : List (Nat × Nat)} (h : kindChk P t (.struct pl) = true) : ∃ fs, P.underlying t = some (.struct fs) ∧ placesChk P pl fs.toList = true := by
  unfold kindChk at h
  split at h <;> (try (cases h; done)) <;> rename_i h1 h2 <;> (try (cases h1; done))
  cases h1
  exact ⟨_, h2, h⟩
theorem places_at : ∀ {pl : List (Nat × Nat)} {fs : List Field}, placesChk P pl fs = true → pl.length = fs.length ∧ ∀ (i o z : Nat), pl[i]? = some (o, z) → ∃ f : Field, fs[i]? = some f ∧ f.offset = o ∧ P.cellsOf f.type = z ∧ 0 < z
  | [], [], _ => ⟨rfl, by simp⟩
  | [], _ :: _, h => by simp [placesChk] at h
  | _ :: _, [], h => by simp [placesChk] at h
  | (o, z) :: r, f :: fs, h => by
    simp only [placesChk, Bool.and_eq_true] at h
    obtain ⟨⟨⟨h1, h2⟩, h3⟩, h4⟩ := h
    obtain ⟨i1, i2⟩ := places_at h4
    refine ⟨by simp [i1], fun i o' z' hi => ?_⟩
    cases i with
    | zero =>
      simp at hi
      obtain ⟨rfl, rfl⟩ := hi
      exact ⟨f, rfl, Nat.eq_of_beq_eq_true h1, Nat.eq_of_beq_eq_true h2, Nat.le_of_ble_eq_true h3⟩
    | succ i => exact i2 i o' z' (by simpa using hi)
theorem sizeOf_cells {t : TypeId} {z : Nat} (h : P.cellsOf t = z) (hz : 0 < z) (w : World) : (Go.sizeOf t).run P w = .ok z w := by
  unfold Program.cellsOf at h
  cases hi : P.info? t with
  | none => rw [hi] at h; simp at h; omega
  | some i => rw [hi] at h; simp at h; simp [Go.sizeOf, typeInfo, hi, h]
theorem elem_eq {t e : TypeId} (h : P.underlying t = some (.slice e)) : P.elem t = e := by simp [Program.elem, h]

variable {cx : Cx} {tm : Tm} {S : Store} {nx : Nat} {a : Act} {w : World} {ρ : Nat → Option Value}
variable {o : Oper}

theorem fieldK_run (_h : R E cx tm S a w ρ) {pl : List (Nat × Nat)} {t : TypeId} (hk : kindChk E.P t (.struct pl) = true) {d : D} {v : Value} (hv : VR w (AvS cx.G S ρ) ρ d v) {i : Nat} {K : D → Prop} (hf : fieldK pl i d K) :
    ∃ d' u, (Instr.fieldAt t v i).run E.P w = .ok u w ∧ VR w (AvS cx.G S ρ) ρ d' u ∧ K d' := by
  obtain ⟨fs, hu, hp⟩ := kind_struct hk
  unfold fieldK at hf
  split at hf
  · rename_i o z hi
    split at hf
    · obtain ⟨f, hf1, hf2, hf3, hf4⟩ := (places_at hp).2 i o z hi
      have hfa : fs[i]? = some f := by simpa using hf1
      have hrun : ∀ ad : Addr, (Instr.fieldAt t (.pointer (some ad)) i).run E.P w = .ok (.pointer (some (ad.add o))) w := by
        intro ad
        have hz : z ≠ 0 := by omega
        simp [Instr.fieldAt, run_underlying hu, hfa, Instr.sureAddr, fieldPlace, sizeOf_cells hf3 hf4, hz, hf2]
      split at hf
      · obtain ⟨b, hr, rfl⟩ := hv.bp_inv
        exact ⟨_, _, hrun _, by rw [add_mk]; exact .gr (.atom (.bp hr)), hf⟩
      · rename_i n sz i' off
        obtain ⟨g, len, c, hr, rfl⟩ := hv.op_inv
        refine ⟨_, _, hrun _, ?_, hf⟩
        rw [add_mk, Nat.add_assoc]
        exact .gr (.atom (.op hr))
      · rename_i cs
        obtain ⟨ad, rfl, hb, hav, hc⟩ := hv.ep_inv.ep_inv
        refine ⟨_, _, hrun _, .gr (.atom (.im ?_)), hf⟩
        obtain ⟨us, h1, h2⟩ := list_of (fun (j : Nat) (d : D) (u : Value) => w.cell? (ad.add j) = some u ∧ u.oneCell' = true ∧ VI w (AvS cx.G S ρ) d u) cs hc
        have at_ : ∀ (j : Nat) (d : D), (cs.drop o)[j]? = some d → cs[o + j]? = some d ∧ us[o + j]? = some (us.getD (o + j) undef) := by
          intro j d hd
          rw [List.getElem?_drop] at hd
          have : o + j < us.length := by rw [h1]; exact (List.getElem?_eq_some_iff.1 hd).1
          exact ⟨hd, by simp [List.getD, this]⟩
        refine .ep (fun j => us.getD (o + j) undef) (by rw [add_block]; exact hb) (by rw [add_block]; exact hav) (fun j d hd => ?_) (fun j d hd => ?_) (fun j d hd => ?_)
        · obtain ⟨e1, e2⟩ := at_ j d hd
          rw [add_add]
          exact (h2 _ _ _ e1 e2).1
        · obtain ⟨e1, e2⟩ := at_ j d hd
          exact (h2 _ _ _ e1 e2).2.1
        · obtain ⟨e1, e2⟩ := at_ j d hd
          exact (h2 _ _ _ e1 e2).2.2
      · exact hf.elim
    · exact hf.elim
  · exact hf.elim

theorem VI.elem {Av : Nat → Prop} {xs : List (List D)} {v : Value} (hv : VI w Av (.sl xs) v) {j : Nat} {cs : List D} (hj : xs[j]? = some cs) :
    ∃ ad n c, v = .slice (some ad) n c ∧ j < n ∧ VI w Av (.ep cs) (.pointer (some (ad.add (j * cs.length)))) := by
  obtain ⟨A, n, c, rfl, hn, hnc, hc, hnone, hsome⟩ := hv.sl_inv
  have hjl : j < xs.length := (List.getElem?_eq_some_iff.1 hj).1
  cases A with
  | none => rw [(hnone rfl).1] at hjl; simp at hjl
  | some ad =>
    obtain ⟨hb, hav, sz, hsz, hcell⟩ := hsome ad rfl
    have hl : cs.length = sz := hsz cs (List.mem_of_getElem? hj)
    have hne : xs ≠ [] := fun e => by rw [e] at hjl; simp at hjl
    refine ⟨ad, n, c, rfl, by omega, ?_⟩
    obtain ⟨us, h1, h2⟩ := list_of (fun (k : Nat) (d : D) (u : Value) => w.cell? (ad.add (j * sz + k)) = some u ∧ u.oneCell' = true ∧ VI w Av d u) cs (fun k d hd => hcell j k cs d hj hd)
    have at_ : ∀ (k : Nat) (d : D), cs[k]? = some d → us[k]? = some (us.getD k undef) := by
      intro k d hd
      have : k < us.length := by rw [h1]; exact (List.getElem?_eq_some_iff.1 hd).1
      simp [List.getD, this]
    rw [hl]
    refine .ep (fun k => us.getD k undef) (by rw [add_block]; exact hb hne) (by rw [add_block]; exact hav hne) (fun k d hd => ?_) (fun k d hd => (h2 k d _ hd (at_ k d hd)).2.1) (fun k d hd => (h2 k d _ hd (at_ k d hd)).2.2)
    rw [add_add]
    exact (h2 k d _ hd (at_ k d hd)).1

theorem indexAt_run {t e : TypeId} (hu : P.underlying t = some (.slice e)) {z : Nat} (hz : (Go.sizeOf e).run P w = .ok z w) (ad : Addr) {n c j : Nat} (hj : j < n) (kd : IntKind) :
    (Instr.indexAt t (.slice (some ad) n c) (.int kd (j : Int))).run P w = .ok (.pointer (some (ad.add (j * z)))) w := by
  have h1 : (0 : Int) ≤ (j : Int) ∧ (j : Int) < (n : Int) := by omega
  simp [Instr.indexAt, run_underlying hu, asIntOf, hz, hj]

theorem kind_parr {t e : TypeId} {n : Nat} (h : kindChk P t (.parr n e) = true) : P.underlying t = some (.array n e) := by
  unfold kindChk at h
  split at h <;> (try (cases h; done)) <;> rename_i h1 h2 <;> (try (cases h1; done))
  cases h1
  simp only [Bool.and_eq_true] at h
  rw [h2, Nat.eq_of_beq_eq_true h.1, Nat.eq_of_beq_eq_true h.2]
theorem indexArr_run {t e : TypeId} {n : Nat} (hu : P.underlying t = some (.array n e)) {z : Nat} (hz : (Go.sizeOf e).run P w = .ok z w) (ad : Addr) {j : Nat} (hj : j < n) (kd : IntKind) :
    (Instr.indexAt t (.pointer (some ad)) (.int kd (j : Int))).run P w = .ok (.pointer (some (ad.add (j * z)))) w := by
  have h1 : (0 : Int) ≤ (j : Int) ∧ (j : Int) < (n : Int) := by omega
  by_cases h2 : n ≤ 1 <;> simp [Instr.indexAt, run_underlying hu, asIntOf, hz, hj, Instr.sureAddr]

theorem indexK_run (hty : TyOk E) (h : R E cx tm S a w ρ) {t e : TypeId} (hu : E.P.underlying t = some (.slice e)) {te : TD} (hte : E.ty e = some te) {d : D} {v : Value} (hv : VR w (AvS cx.G S ρ) ρ d v)
    {kd : IntKind} {i : Int} {K : D → Prop} (hk : indexK S d e te.size i K) : ∃ d' u, (Instr.indexAt t v (.int kd i)).run E.P w = .ok u w ∧ VR w (AvS cx.G S ρ) ρ d' u ∧ K d' := by
  have hz := sizeOf_run hty (w := w) hte
  have imm : ∀ xs, VI w (AvS cx.G S ρ) (.sl xs) v → ∀ (j : Nat) (cs : List D), i = (j : Int) → xs[j]? = some cs → cs.length = te.size → K (.ep cs) → ∃ d' u, (Instr.indexAt t v (.int kd i)).run E.P w = .ok u w ∧ VR w (AvS cx.G S ρ) ρ d' u ∧ K d' := by
    intro xs hv j cs hi hj hl hK
    obtain ⟨ad, n, c, rfl, hjn, hep⟩ := hv.elem hj
    subst hi
    refine ⟨_, _, indexAt_run hu hz ad hjn kd, ?_, hK⟩
    rw [← hl]
    exact .gr (.atom (.im hep))
  have mine : ∀ (n : Nat) (u : Value) (us : List Value) (xs : List (List D)) (j : Nat), ρ n = some u → v = u → w.ownsRow 0 e (E.P.cellsOf e) u xs.length us → i = (j : Int) → j < xs.length → K (.op n te.size j 0) →
      ∃ d' u, (Instr.indexAt t v (.int kd i)).run E.P w = .ok u w ∧ VR w (AvS cx.G S ρ) ρ d' u ∧ K d' := by
    intro n u us xs j hr hvu ho hi hj hK
    subst hi hvu
    rcases ho.2 with ⟨_, hn⟩ | ⟨g, cap, cur, rfl, _⟩
    · omega
    · refine ⟨_, _, indexAt_run hu hz _ hj kd, ?_, hK⟩
      rw [add_mk, Nat.zero_add]
      have := VA.op (w := w) (Av := AvS cx.G S ρ) (t := n) (i := j) (off := 0) (sz := te.size) hr
      exact .gr (.atom this)
  unfold indexK at hk
  split at hk
  · obtain ⟨j, cs, hi, hj, hl, hK⟩ := hk
    exact imm _ hv.sl_inv j cs hi hj hl hK
  · rename_i n
    have hvr := hv.own_inv
    split at hk
    · rename_i e' xs hl
      split at hk
      · rename_i hb
        obtain ⟨j, hi, hj, hK⟩ := hk
        have he : e = e' := Nat.eq_of_beq_eq_true hb
        subst he
        obtain ⟨u, us, hr, ho, _⟩ := h.st _ _ hl
        exact mine n u us xs j hr (by rw [hvr] at hr; exact Option.some.inj hr) ho hi hj hK
      · exact hk.elim
    · rename_i e' xs hl
      split at hk
      · rename_i hb
        obtain ⟨j, hi, hj, hK⟩ := hk
        have he : e = e' := Nat.eq_of_beq_eq_true hb
        subst he
        obtain ⟨u, us, hr, ho, _⟩ := h.st _ _ hl
        exact mine n u us xs j hr (by rw [hvr] at hr; exact Option.some.inj hr) ho hi hj hK
      · exact hk.elim
    · rename_i xs hl
      obtain ⟨j, cs, hi, hj, hlen, hK⟩ := hk
      obtain ⟨u, hr, hvi⟩ := h.st _ _ hl
      rw [hvr] at hr
      cases hr
      exact imm _ hvi j cs hi hj hlen hK
    · exact hk.elim
  · exact hk.elim

theorem ba_get (l : List UInt8) (j : Nat) : (⟨l.toArray⟩ : ByteArray)[j]? = l[j]? := by
  by_cases h : j < l.length
  · have hs : j < (⟨l.toArray⟩ : ByteArray).size := by simpa [ByteArray.size] using h
    rw [ByteArray.getElem?_lt' _ _ hs, List.getElem?_eq_getElem h]
    rfl
  · have hs : ¬ j < (⟨l.toArray⟩ : ByteArray).size := by simpa [ByteArray.size] using h
    rw [ByteArray.getElem?_ge' _ _ hs, List.getElem?_eq_none (by omega)]
theorem indexStr_run {t : TypeId} (hu : P.underlying t = some .string) {l : List UInt8} {j : Nat} {c : UInt8} (hj : l[j]? = some c) (kd : IntKind) :
    (Instr.index t (.string ⟨l.toArray⟩) (.int kd (j : Int))).run P w = .ok (.int .u8 (c.toNat : Int)) w := by
  simp [Instr.index, run_underlying hu, asIntOf, ba_get, hj]

theorem intOp_run {t : TypeId} {op : BinOp} {kd : IntKind} {m n : Int} {Av : Nat → Prop} {K : D → Prop} (hk : intOp op kd m n K) :
    ∃ d v, (binOp op t (.int kd m) (.int kd n)).run P w = .ok v w ∧ VI w Av d v ∧ K d := by
  unfold intOp at hk
  split at hk
  · obtain ⟨r, rfl, hk⟩ := hk; exact ⟨_, _, by simp [binOp, Op.intArith], .k _ _, hk⟩
  · obtain ⟨r, rfl, hk⟩ := hk; exact ⟨_, _, by simp [binOp, Op.intArith], .k _ _, hk⟩
  · obtain ⟨r, rfl, hk⟩ := hk; exact ⟨_, _, by simp [binOp, Op.intArith], .k _ _, hk⟩
  · obtain ⟨hn, r, rfl, hk⟩ := hk; exact ⟨_, _, by simp [binOp, Op.intDiv, hn], .k _ _, hk⟩
  · obtain ⟨hn, r, rfl, hk⟩ := hk; exact ⟨_, _, by simp [binOp, Op.intDiv, hn], .k _ _, hk⟩
  · exact ⟨_, .bool (decide (m = n)), by simp only [binOp]; simp [Op.intCmp]; rfl, .b _, hk⟩
  · exact ⟨_, .bool (!decide (m = n)), by simp only [binOp]; simp [Op.intCmp]; rfl, .b _, hk⟩
  · exact ⟨_, _, by simp [binOp, Op.intCmp], .b _, hk⟩
  · exact ⟨_, _, by simp [binOp, Op.intCmp], .b _, hk⟩
  · exact ⟨_, .bool (decide (m > n)), by simp [binOp, Op.intCmp], .b _, hk⟩
  · exact ⟨_, .bool (decide (m ≥ n)), by simp [binOp, Op.intCmp], .b _, hk⟩
  · obtain ⟨r, hr, hk⟩ := hk; exact ⟨_, _, by simp [binOp, hr], .k _ _, hk⟩
  · obtain ⟨r, hr, hk⟩ := hk; exact ⟨_, _, by simp [binOp, hr], .k _ _, hk⟩
  · exact hk.elim
theorem strOp_run {t : TypeId} {op : BinOp} {x y : List UInt8} {Av : Nat → Prop} {K : D → Prop} (hk : strOp op x y K) :
    ∃ d v, (binOp op t (.string ⟨x.toArray⟩) (.string ⟨y.toArray⟩)).run P w = .ok v w ∧ VI w Av d v ∧ K d := by
  have hb : (x == y) = decide (x = y) := by by_cases h : x = y <;> simp [h]
  unfold strOp at hk
  split at hk
  · obtain ⟨hl, hk⟩ := hk
    refine ⟨_, _, ?_, .s _, hk⟩
    rw [binOp_string_add, run_string_add_sum _ _ _ (by simpa [ByteArray.size] using hl), ByteArray.mk_append_mk]
  · exact ⟨_, _, by simp only [binOp_string_eql, ByteArray.toList_mk, hb, Sem.run_pure], .b _, hk⟩
  · exact ⟨_, _, by simp only [binOp_string_neq, ByteArray.toList_mk, hb, Sem.run_pure], .b _, hk⟩
  · exact ⟨_, _, by simp only [binOp_string_lss, ByteArray.toList_mk, Sem.run_pure], .b _, hk⟩
  · exact ⟨_, _, by simp [binOp, Op.stringOp, hb], .b _, hk⟩
  · exact ⟨_, _, by simp only [binOp, Op.stringOp, ByteArray.toList_mk, hb, Sem.run_pure], .b _, hk⟩
  · exact ⟨_, _, by simp only [binOp, Op.stringOp, ByteArray.toList_mk, Sem.run_pure], .b _, hk⟩
  · exact hk.elim
theorem boolOp_run {t : TypeId} (hu : P.underlying t = some .bool) {op : BinOp} {x y : Bool} {Av : Nat → Prop} {K : D → Prop} (hk : boolOpK op x y K) :
    ∃ d v, (binOp op t (.bool x) (.bool y)).run P w = .ok v w ∧ VI w Av d v ∧ K d := by
  unfold boolOpK at hk
  split at hk
  · exact ⟨_, _, by simp [binOp, Op.equal, Op.maxDepth, run_equalIn_bool' w _ t x y hu], .b _, hk⟩
  · exact ⟨_, _, by simp [binOp, Op.equal, Op.maxDepth, run_equalIn_bool' w _ t x y hu], .b _, hk⟩
  · exact hk.elim
end
end Go.Ab
