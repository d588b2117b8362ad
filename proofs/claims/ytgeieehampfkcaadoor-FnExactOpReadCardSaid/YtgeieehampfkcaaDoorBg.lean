/- An abstract reading of the elaborated code. Part 7: steps that turn no block; new blocks. -/
import Derived.Test.YtgeieehampfkcaaDoorBf
namespace Go.Ab
open Go Go.RowKit

section
variable {E : Env} {cx : Cx} {tm : Tm} {S : Store} {nx : Nat} {a : Act} {w : World} {ρ : Nat → Option Value} {o : Oper} {K : Kt}

/-- a new name -/
def withName (ρ : Nat → Option Value) (n : Nat) (v : Value) : Nat → Option Value := fun t => if t = n then some v else ρ t
theorem withName_same (n : Nat) (v : Value) : withName ρ n v n = some v := by simp [withName]
theorem withName_other {n m : Nat} (v : Value) (h : m ≠ n) : withName ρ n v m = ρ m := by simp [withName, h]
theorem R.make (h : R E cx tm S a w ρ) (hn : ρ nx = none) {b : Blk} {v : Value} {w' : World} (hf : Fr (fun _ => False) w w') (hb : ∀ x, blkOf v = some x → w.heap.size ≤ x)
    (hs : (∀ d u, VI w (AvS cx.G S ρ) d u → VI w' (AvS cx.G (ap [(nx, some b)] S) (withName ρ nx v)) d u) → (∀ t u, ρ t = some u → withName ρ nx v t = some u) →
      SR E.P w' (AvS cx.G (ap [(nx, some b)] S) (withName ρ nx v)) (withName ρ nx v) nx b) :
    R E cx tm (ap [(nx, some b)] S) a w' (withName ρ nx v) := by
  have ext : ∀ t u, ρ t = some u → withName ρ nx v t = some u := by
    intro t u ht
    have : t ≠ nx := by rintro rfl; rw [hn] at ht; cases ht
    rw [withName_other v this]; exact ht
  have lo : ∀ m c, lk [(nx, some b)] m = some c → m = nx ∧ c = some b := by
    intro m c hm
    rw [lk_cons] at hm
    by_cases e : nx = m
    · rw [if_pos e] at hm; cases hm; exact ⟨e.symm, rfl⟩
    · rw [if_neg e] at hm; simp [lk] at hm
  refine h.turn ⟨hf.weaken fun _ h => h.elim, ext, fun m c hm hv x hx => ?_, fun m m' c c' x h1 h2 _ _ _ _ => ?_, fun hi m c hm => ?_⟩
  · obtain ⟨rfl, e⟩ := lo m _ hm
    rw [withName_same] at hx
    exact .inl (hb x hx)
  · rw [(lo m _ h1).1, (lo m' _ h2).1]
  · obtain ⟨rfl, e⟩ := lo m _ hm
    cases e
    exact hs hi ext

theorem fr_alloc (w : World) (o : Obj) : Fr (fun _ => False) w (w.alloc o) := ⟨rfl, rfl, rfl, by simp, fun k hk _ => Below.heap_alloc w o k hk⟩
/-- a new box -/
theorem R.box (h : R E cx tm S a w ρ) (hn : ρ nx = none) (e : TypeId) {cs : List D} {us : List Value} (hc : Cs w (AvS cx.G S ρ) ρ cs us) :
    R E cx tm (ap [(nx, some (.box e cs))] S) a (w.alloc (.cells us.toArray e)) (withName ρ nx (.pointer (some ⟨w.heap.size, 0, none⟩))) ∧
      VR (w.alloc (.cells us.toArray e)) (AvS cx.G (ap [(nx, some (.box e cs))] S) (withName ρ nx (.pointer (some ⟨w.heap.size, 0, none⟩)))) (withName ρ nx (.pointer (some ⟨w.heap.size, 0, none⟩))) (.bp nx 0) (.pointer (some ⟨w.heap.size, 0, none⟩)) := by
  refine ⟨h.make hn (fr_alloc w _) (by intro x hx; simp [blkOf] at hx; omega) (fun hi hr => ?_), .gr (.atom (.bp (withName_same _ _)))⟩
  exact ⟨w.heap.size, us, withName_same _ _, heap_alloc_new w _, hc.len, hc.one, fun i d u p q => (hc.at_ i d u p q).mono hi hr⟩
/-- a new slice of the call's own -/
theorem R.own (h : R E cx tm S a w ρ) (hn : ρ nx = none) {e : TypeId} {xs : List (List D)} {us : List Value} (hr : Rows (VI w (AvS cx.G S ρ)) (E.P.cellsOf e) xs us) {u : Value} {w' : World}
    (hf : Fr (fun _ => False) w w') (ho : w'.ownsRow w.heap.size e (E.P.cellsOf e) u xs.length us) :
    R E cx tm (ap [(nx, some (.own e xs))] S) a w' (withName ρ nx u) ∧ VR w' (AvS cx.G (ap [(nx, some (.own e xs))] S) (withName ρ nx u)) (withName ρ nx u) (.own nx) u := by
  have ho' : w'.ownsRow 0 e (E.P.cellsOf e) u xs.length us := by
    refine ⟨ho.1, ?_⟩
    rcases ho.2 with h1 | ⟨g, cap, cur, h1, _, h2⟩
    · exact .inl h1
    · exact .inr ⟨g, cap, cur, h1, Nat.zero_le _, h2⟩
  have h1 : u.oneCell' = true := by rcases ho.2 with ⟨rfl, _⟩ | ⟨g, cap, cur, rfl, _⟩ <;> rfl
  have hb : ∀ x, blkOf u = some x → w.heap.size ≤ x := by
    intro x hx
    rcases ho.2 with ⟨rfl, _⟩ | ⟨g, cap, cur, rfl, hg, _⟩
    · simp [blkOf] at hx
    · simp [blkOf] at hx; omega
  exact ⟨h.make hn hf hb fun hi hr' => ⟨u, us, withName_same _ _, ho', hr.mono hi⟩, .gr (.atom (.own (withName_same _ _) h1))⟩

theorem lk_one {n m : Nat} {o : Option Blk} (h : lk [(n, o)] m ≠ none) : m = n := by
  rw [lk_cons] at h
  by_cases e : n = m
  · exact e.symm
  · rw [if_neg e] at h; simp [lk] at h
theorem lk_ap_one' {n : Nat} {b : Blk} {S : Store} (m : Nat) : lk ((n, b) :: S) m = lk (ap [(n, some b)] S) m := by
  rw [lk_ap, lk_cons, lk_cons]
  by_cases e : n = m
  · simp [e]
  · simp [e, lk]

/-- a step that makes one block -/
theorem Ok1.one {b : Blk} {d : D} (hk : K (fpN nx) (put o.dst d tm) ((nx, b) :: S) (nx + 1))
    (hs : ∀ (cx : Cx) (tm' : Tm) (S' : Store) (a : Act) (w : World) (ρ : Nat → Option Value), (∀ x ∈ o.op.operands, ev E.gl tm' x = ev E.gl tm x) → R E cx tm' S' a w ρ → ρ nx = none →
      ∃ v w' u, (execOp a.eval o).run E.P w = .ok (.value v) w' ∧ R E cx tm' (ap [(nx, some b)] S') a w' (withName ρ nx u) ∧ VR w' (AvS cx.G (ap [(nx, some b)] S') (withName ρ nx u)) (withName ρ nx u) d v) : Ok1 E o tm S nx K := by
  refine Ok1.val (fp := fpN nx) (out := [(nx, some b)]) (nx' := nx + 1) (d := d) (fun n h => by simp [fpN, lk_one h]) (fun n h => h) (Nat.le_succ _) (fun n h1 h2 => by simp [fpN]; omega) (fun n => lk_ap_one' n) hk ?_
  intro cx tm' S' a w ρ he hf h hn
  obtain ⟨v, w', u, e1, e2, e3⟩ := hs cx tm' S' a w ρ he h (hn nx (Nat.le_refl _) (Nat.lt_succ_self _))
  exact ⟨v, w', _, e1, e2, e3, fun n hne => withName_other u (by rintro rfl; exact hne ⟨Nat.le_refl _, Nat.lt_succ_self _⟩)⟩

theorem ok_move {x : Operand} (ho : o.op = .move x ∨ o.op = .assign x) {d : D} (hx : ev E.gl tm x = some d) (hk : K fp0 (put o.dst d tm) S nx) : Ok1 E o tm S nx K := by
  refine Ok1.pure (fp := []) hk fun cx tm' S' a w ρ he _ h => ⟨a.eval x, ?_, h.eval ((he x ?_).trans hx)⟩
  · rcases ho with ho | ho <;> simp [execOp, ho]
  · rcases ho with ho | ho <;> simp [ho, Op.operands]
theorem ok_nil {x : Operand} (ho : o.op = .assign x) (hx : ev E.gl tm x = some .nil) {e : TypeId}
    (hk : K (fpN nx) (put o.dst (.own nx) tm) ((nx, .own e []) :: S) (nx + 1)) : Ok1 E o tm S nx K := by
  refine Ok1.one hk fun cx tm' S' a w ρ he h hn => ?_
  have hv : a.eval x = .slice none 0 0 := (h.eval ((he x (by simp [ho, Op.operands])).trans hx)).nil_inv
  obtain ⟨h', hv'⟩ := h.own hn (e := e) (xs := []) (us := []) (u := .slice none 0 0) (w' := w) ⟨by simp, by simp, by simp, by simp⟩ (Fr.refl _ w) (World.ownsRow_nil _ _ _ _)
  exact ⟨_, _, _, by simp [execOp, ho, hv], h', hv'⟩
theorem ok_pick {c x y : Operand} (ho : o.op = .pick c x y) {z : Bool} (hc : ev E.gl tm c = some (.b z)) {d : D} (hx : ev E.gl tm (if z then x else y) = some d) (hk : K fp0 (put o.dst d tm) S nx) : Ok1 E o tm S nx K := by
  refine Ok1.pure (fp := []) hk fun cx tm' S' a w ρ he _ h => ?_
  have hv := (h.eval ((he c (by simp [ho, Op.operands])).trans hc)).b_inv
  refine ⟨a.eval (if z then x else y), ?_, h.eval ((he _ ?_).trans hx)⟩
  · cases z <;> simp [execOp, ho, hv, asBool]
  · cases z <;> simp [ho, Op.operands]
theorem ok_box {e : TypeId} {x : Operand} (ho : o.op = .box e x) {d : D} (hx : ev E.gl tm x = some d) (ht : isTup d = false)
    (hk : K (fpN nx) (put o.dst (.bp nx 0) tm) ((nx, .box e (cellsOf d)) :: S) (nx + 1)) : Ok1 E o tm S nx K := by
  refine Ok1.one hk fun cx tm' S' a w ρ he h hn => ?_
  have hc := ((h.eval ((he x (by simp [ho, Op.operands])).trans hx)).vg ht).cells
  obtain ⟨h', hv'⟩ := h.box hn e hc
  exact ⟨_, _, _, by simp [execOp, ho, Instr.box, newVar, newRow], h', hv'⟩
theorem ok_alloc (hty : TyOk E) {e : TypeId} (ho : o.op = .alloc e) {td : TD} (ht : E.ty e = some td)
    (hk : K (fpN nx) (put o.dst (.bp nx 0) tm) ((nx, .box e (cellsOf td.zero)) :: S) (nx + 1)) : Ok1 E o tm S nx K := by
  refine Ok1.one hk fun cx tm' S' a w ρ he h hn => ?_
  obtain ⟨v, hz, hc⟩ := zero_run hty (w := w) ht
  obtain ⟨h', hv'⟩ := h.box hn e (zeroChk_cells (w := w) (Av := AvS cx.G S' ρ) (ρ := ρ) hc).1
  exact ⟨_, _, _, by simp [execOp, ho, Instr.alloc, hz, newVar, newRow], h', hv'⟩

theorem nm_ep (cs : List D) : nmD (.ep cs) = [] := rfl
/-- what a load looks at -/
theorem addrK_agree {S' : Store} {d : D} {td : TD} {K : D → Prop} (hf : ∀ n ∈ nmD d, lk S' n = lk S n) (hk : addrK E S d td K) : addrK E S' d td K := by
  unfold addrK at hk ⊢
  cases d with
  | bp n off => simp only at hk ⊢; rw [hf n (by simp [nmD, nmA])]; exact hk
  | op n sz i off => simp only at hk ⊢; rw [hf n (by simp [nmD, nmA])]; exact hk
  | ep cs => exact hk
  | _ => exact hk
theorem indexK_agree {S' : Store} {d : D} {e : TypeId} {z : Nat} {i : Int} {K : D → Prop} (hf : ∀ n ∈ nmD d, lk S' n = lk S n) (hk : indexK S d e z i K) : indexK S' d e z i K := by
  unfold indexK at hk ⊢
  cases d with
  | own n => simp only at hk ⊢; rw [hf n (by simp [nmD, nmA])]; exact hk
  | sl xs => exact hk
  | _ => exact hk
theorem lenK_agree {S' : Store} {kd : TK} {d : D} {K : Int → Prop} (hf : ∀ n ∈ nmD d, lk S' n = lk S n) (hk : lenK kd S d K) : lenK kd S' d K := by
  unfold lenK at hk ⊢
  cases kd with
  | slice e =>
    cases d with
    | own n => simp only at hk ⊢; rw [hf n (by simp [nmD, nmA])]; exact hk
    | _ => exact hk
  | _ => exact hk
/-- a continuation that ends in a step: what is known of its result -/
theorem loadK_ex {td : TD} {cs : List D} {K : D → Prop} (h : loadK td cs K) : ∃ d, (∀ K' : D → Prop, K' d → loadK td cs K') ∧ K d := by
  unfold loadK at h ⊢
  split at h
  · split at h
    · exact ⟨_, fun K' h => by simpa using h, h⟩
    · exact h.elim
  · split at h
    · exact ⟨_, fun K' h => by simpa using h, h⟩
    · exact h.elim
theorem szK_ex {e : TypeId} {sz : Nat} {K : Prop} (h : szK E e sz K) : (∀ K' : Prop, K' → szK E e sz K') ∧ K := by
  obtain ⟨te, h1, h2, h3⟩ := szK_inv h
  refine ⟨fun K' h => ?_, h3⟩
  unfold szK
  rw [h1]
  simp only [h2, Nat.beq_refl]
  exact h
theorem addrK_ex {d : D} {td : TD} {K : D → Prop} (h : addrK E S d td K) : ∃ d', (∀ K' : D → Prop, K' d' → addrK E S d td K') ∧ K d' := by
  unfold addrK at h ⊢
  cases d with
  | bp n off =>
    simp only at h ⊢
    cases hl : lk S n with
    | none => rw [hl] at h; exact h.elim
    | some b => rw [hl] at h; cases b <;> first | exact loadK_ex h | exact h.elim
  | ep cs => exact loadK_ex h
  | op n sz i off =>
    simp only at h ⊢
    have key : ∀ (e : TypeId) (xs : List (List D)), szK E e sz (∃ cs, xs[i]? = some cs ∧ loadK td (cs.drop off) K) → ∃ d', (∀ K' : D → Prop, K' d' → szK E e sz (∃ cs, xs[i]? = some cs ∧ loadK td (cs.drop off) K')) ∧ K d' := by
      intro e xs h
      obtain ⟨h1, cs, h2, h3⟩ := szK_ex h
      obtain ⟨d', h4, h5⟩ := loadK_ex h3
      exact ⟨d', fun K' hK => h1 _ ⟨cs, h2, h4 K' hK⟩, h5⟩
    cases hl : lk S n with
    | none => rw [hl] at h; exact h.elim
    | some b => rw [hl] at h; cases b <;> first | exact key _ _ h | exact h.elim
  | _ => exact h.elim
theorem indexK_ex {d : D} {e : TypeId} {z : Nat} {i : Int} {K : D → Prop} (h : indexK S d e z i K) : ∃ d', (∀ K' : D → Prop, K' d' → indexK S d e z i K') ∧ K d' := by
  unfold indexK at h ⊢
  cases d with
  | sl xs => obtain ⟨j, cs, h1, h2, h3, h4⟩ := h; exact ⟨_, fun K' hK => ⟨j, cs, h1, h2, h3, hK⟩, h4⟩
  | own n =>
    simp only at h ⊢
    cases hl : lk S n with
    | none => rw [hl] at h; exact h.elim
    | some b =>
      rw [hl] at h
      cases b with
      | box => exact h.elim
      | fr xs => obtain ⟨j, cs, h1, h2, h3, h4⟩ := h; exact ⟨_, fun K' hK => ⟨j, cs, h1, h2, h3, hK⟩, h4⟩
      | own e' xs =>
        simp only at h ⊢
        cases hb : Nat.beq e e' with
        | true => rw [hb] at h; obtain ⟨j, h1, h2, h3⟩ := h; exact ⟨_, fun K' hK => ⟨j, h1, h2, hK⟩, h3⟩
        | false => rw [hb] at h; exact h.elim
      | row e' xs =>
        simp only at h ⊢
        cases hb : Nat.beq e e' with
        | true => rw [hb] at h; obtain ⟨j, h1, h2, h3⟩ := h; exact ⟨_, fun K' hK => ⟨j, h1, h2, hK⟩, h3⟩
        | false => rw [hb] at h; exact h.elim
  | _ => exact h.elim
theorem fieldK_ex {pl : List (Nat × Nat)} {i : Nat} {d : D} {K : D → Prop} (h : fieldK pl i d K) : ∃ d', (∀ K' : D → Prop, K' d' → fieldK pl i d K') ∧ K d' := by
  unfold fieldK at h ⊢
  cases hp : pl[i]? with
  | none => rw [hp] at h; exact h.elim
  | some p =>
    obtain ⟨o, z⟩ := p
    rw [hp] at h
    simp only at h ⊢
    cases hz : Nat.blt 0 z with
    | false => rw [hz] at h; exact h.elim
    | true => rw [hz] at h; cases d <;> first | exact ⟨_, fun _ h => h, h⟩ | exact h.elim

theorem ok_load (hty : TyOk E) {t : TypeId} {x : Operand} (ho : o.op = .load t x) {d : D} (hx : ev E.gl tm x = some d) {td : TD} (ht : E.ty t = some td)
    (hk : addrK E S d td fun d' => K (fpR d) (put o.dst d' tm) S nx) : Ok1 E o tm S nx K := by
  obtain ⟨d', h1, h2⟩ := addrK_ex hk
  refine Ok1.pure (fp := nmD d) h2 fun cx tm' S' a w ρ he hf h => ?_
  obtain ⟨d2, u, hrun, hg, rfl⟩ := addrK_run hty h ht (h.eval ((he x (by simp [ho, Op.operands])).trans hx)) (addrK_agree hf (h1 (fun x => x = d') rfl))
  exact ⟨u, by simp [execOp, ho, hrun], .gr hg⟩
theorem ok_fieldAddr (hty : TyOk E) {t : TypeId} {x : Operand} {f : Nat} (ho : o.op = .fieldAddr t x f) {d : D} (hx : ev E.gl tm x = some d) {td : TD} (ht : E.ty t = some td) {pl : List (Nat × Nat)} (hp : td.kind = .struct pl)
    (hk : fieldK pl f d fun d' => K fp0 (put o.dst d' tm) S nx) : Ok1 E o tm S nx K := by
  obtain ⟨d', h1, h2⟩ := fieldK_ex hk
  refine Ok1.pure (fp := []) h2 fun cx tm' S' a w ρ he hf h => ?_
  have hkc := hty.kind ht
  rw [hp] at hkc
  obtain ⟨d2, u, hrun, hg, rfl⟩ := fieldK_run h hkc (h.eval ((he x (by simp [ho, Op.operands])).trans hx)) (h1 (fun x => x = d') rfl)
  exact ⟨u, by simp [execOp, ho, hrun], hg⟩
theorem ok_indexAddr (hty : TyOk E) {t : TypeId} {x i : Operand} (ho : o.op = .indexAddr t x i) {d : D} (hx : ev E.gl tm x = some d) {kd : IntKind} {n : Int} (hi : ev E.gl tm i = some (.k kd n)) {td te : TD} {e : TypeId} (ht : E.ty t = some td) (hp : td.kind = .slice e) (hte : E.ty e = some te)
    (hk : indexK S d e te.size n fun d' => K (fpR d) (put o.dst d' tm) S nx) : Ok1 E o tm S nx K := by
  obtain ⟨d', h1, h2⟩ := indexK_ex hk
  refine Ok1.pure (fp := nmD d) h2 fun cx tm' S' a w ρ he hf h => ?_
  have hkc := hty.kind ht
  rw [hp] at hkc
  obtain ⟨d2, u, hrun, hg, rfl⟩ := indexK_run hty h (kind_slice hkc) hte (h.eval ((he x (by simp [ho, Op.operands])).trans hx)) (kd := kd) (indexK_agree hf (h1 (fun x => x = d') rfl))
  have hiv := (h.eval ((he i (by simp [ho, Op.operands])).trans hi)).k_inv
  exact ⟨u, by simp [execOp, ho, hiv, hrun], hg⟩
theorem ok_indexArr (hty : TyOk E) {t : TypeId} {x i : Operand} (ho : o.op = .indexAddr t x i) {cs : List D} (hx : ev E.gl tm x = some (.ep cs)) {kd : IntKind} {j : Nat} (hi : ev E.gl tm i = some (.k kd (j : Int))) {td te : TD} {e : TypeId} {m : Nat} (ht : E.ty t = some td) (hp : td.kind = .parr m e) (hte : E.ty e = some te)
    (hz : te.size = 1) (hj : j < m) {c : D} (hc : cs[j]? = some c) (hk : K fp0 (put o.dst (.ep [c]) tm) S nx) : Ok1 E o tm S nx K := by
  refine Ok1.pure (fp := []) hk fun cx tm' S' a w ρ he hf h => ?_
  have hkc := hty.kind ht
  rw [hp] at hkc
  obtain ⟨ad, hv, hb, hav, hcell⟩ := (h.eval ((he x (by simp [ho, Op.operands])).trans hx)).ep_inv.ep_inv
  have hiv := (h.eval ((he i (by simp [ho, Op.operands])).trans hi)).k_inv
  have hrun := indexArr_run (kind_parr hkc) (sizeOf_run hty (w := w) hte) ad hj kd
  rw [hz, Nat.mul_one] at hrun
  refine ⟨.pointer (some (ad.add j)), by simp [execOp, ho, hiv, hv, hrun], ?_⟩
  obtain ⟨u, e1, e2, e3⟩ := hcell j c hc
  refine .gr (.atom (.im (.ep (fun _ => u) (by rw [add_block]; exact hb) (by rw [add_block]; exact hav) (fun k d hd => ?_) (fun k d hd => e2) (fun k d hd => ?_))))
  · cases k with
    | zero => exact e1
    | succ k => simp at hd
  · cases k with
    | zero => simp at hd; subst hd; exact e3
    | succ k => simp at hd
theorem ok_index (hty : TyOk E) {t : TypeId} {x i : Operand} (ho : o.op = .index t x i) {l : List UInt8} (hx : ev E.gl tm x = some (.s l)) {kd : IntKind} {j : Nat} (hi : ev E.gl tm i = some (.k kd (j : Int))) {td : TD} (ht : E.ty t = some td) (hp : td.kind = .str)
    {c : UInt8} (hc : l[j]? = some c) (hk : K fp0 (put o.dst (.k .u8 (c.toNat : Int)) tm) S nx) : Ok1 E o tm S nx K := by
  refine Ok1.pure (fp := []) hk fun cx tm' S' a w ρ he hf h => ?_
  have hkc := hty.kind ht
  rw [hp] at hkc
  have hv := (h.eval ((he x (by simp [ho, Op.operands])).trans hx)).s_inv
  have hiv := (h.eval ((he i (by simp [ho, Op.operands])).trans hi)).k_inv
  exact ⟨_, by simp [execOp, ho, hiv, hv, indexStr_run (kind_str hkc) hc], .gr (.atom (.im (.k _ _)))⟩
end
end Go.Ab
