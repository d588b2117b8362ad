/- An abstract reading of the elaborated code. Part 15: every operation does what the symbolic run says. -/
import Derived.Test.YtgeieehampfkcaaDoorBn
namespace Go.Ab
open Go Go.RowKit

section
variable {E : Env} {tm : Tm} {S : Store} {nx : Nat} {o : Oper} {K : Kt}

theorem args_eval {cx : Cx} {tm' : Tm} {S' : Store} {a : Act} {w : World} {ρ : Nat → Option Value} (h : R E cx tm' S' a w ρ) {args : List Operand} {ds : List D} (_hl : ds.length = args.length) (hev : ∀ (i : Nat) (x : Operand) (d : D), args[i]? = some x → ds[i]? = some d → ev E.gl tm x = some d) (he : ∀ x ∈ args, ev E.gl tm' x = ev E.gl tm x) :
    ∀ (i : Nat) (d : D) (u : Value), ds[i]? = some d → (args.map a.eval)[i]? = some u → VR w (AvS cx.G S' ρ) ρ d u := by
  intro i d u hd hu
  simp only [List.getElem?_map, Option.map_eq_some_iff] at hu
  obtain ⟨x, hx, rfl⟩ := hu
  exact h.eval ((he x (List.mem_of_getElem? hx)).trans (hev i x d hx hd))

theorem ok_callFn {f : FuncId} {args : Array Operand} {tys : Array TypeId} (ho : o.op = .call { callee := .value (.func f), args := args, argTypes := tys }) {ds : List D} (hl : ds.length = args.toList.length)
    (hev : ∀ (i : Nat) (x : Operand) (d : D), args.toList[i]? = some x → ds[i]? = some d → ev E.gl tm x = some d) (hk : callK E f ds S nx fun d fp S' nx' => K fp (put o.dst d tm) S' nx') : Ok1 E o tm S nx K := by
  refine ok_call (fun cx tm' S' a w ρ he h => ⟨args.toList.map a.eval, ?_, by simpa using hl, fun i d u hd hu S1 hS1 => ?_⟩) hk
  · have : (args.toList.map a.eval).toArray = args.map a.eval := by apply Array.ext'; simp
    rw [this]
    simp [execOp, ho, resolve, Deferred.ofValue, Act.eval, invoke]
  · obtain ⟨_, _, h1⟩ := hS1
    refine args_eval h1 hl hev (fun x hx => he x ?_) i d u hd hu
    rw [ho]
    simp only [Op.operands, Call.operands]
    simp
    exact .inr (by simpa using hx)
theorem ok_callVal {t : Nat} {args : Array Operand} {tys : Array TypeId} (ho : o.op = .call { callee := .value (.tmp t), args := args, argTypes := tys }) {f : FuncId} {cs : List Nat} (ht : lk tm t = some (.fn f cs)) {ds : List D} (hl : ds.length = args.toList.length)
    (hev : ∀ (i : Nat) (x : Operand) (d : D), args.toList[i]? = some x → ds[i]? = some d → ev E.gl tm x = some d) (hk : callK E f (ds ++ cs.map fun n => .bp n 0) S nx fun d fp S' nx' => K fp (put o.dst d tm) S' nx') : Ok1 E o tm S nx K := by
  refine ok_call (fun cx tm' S' a w ρ he h => ?_) hk
  have hft : ev E.gl tm' (.tmp t) = some (.fn f cs) := (he (.tmp t) (by rw [ho]; simp [Op.operands, Call.operands])).trans ht
  have hfv := h.eval hft
  have hform : ∃ us : List Value, a.eval (.tmp t) = .func (.func f) #[] us.toArray ∧ cs.length = us.length ∧ ∀ (i n : Nat) (u : Value), cs[i]? = some n → us[i]? = some u → ρ n = some u ∧ ∃ b, u = .pointer (some ⟨b, 0, none⟩) := by
    generalize a.eval (.tmp t) = v at hfv
    cases hfv with
    | gr hv =>
      cases hv with
      | atom hv =>
        cases hv with
        | im hv => cases hv; exact ⟨[], rfl, rfl, by simp⟩
        | fn hl hr => exact ⟨_, rfl, hl, hr⟩
  obtain ⟨us, hfu, hul, hus⟩ := hform
  refine ⟨args.toList.map a.eval ++ us, ?_, by simp [hl, hul], fun i d u hd hu S1 hS1 => ?_⟩
  · have : (args.toList.map a.eval ++ us).toArray = args.map a.eval ++ us.toArray := by apply Array.ext'; simp
    rw [this]
    simp [execOp, ho, resolve, Deferred.ofValue, hfu, invoke]
  · obtain ⟨_, _, h1⟩ := hS1
    by_cases hi : i < ds.length
    · rw [List.getElem?_append_left hi] at hd
      rw [List.getElem?_append_left (by rw [List.length_map, ← hl]; exact hi)] at hu
      refine args_eval h1 hl hev (fun x hx => he x ?_) i d u hd hu
      rw [ho]
      simp only [Op.operands, Call.operands]
      simp
      exact .inr (by simpa using hx)
    · have hml : (args.toList.map a.eval).length = ds.length := by simp [hl]
      rw [List.getElem?_append_right (by omega)] at hd
      rw [List.getElem?_append_right (by omega), hml] at hu
      simp only [List.getElem?_map, Option.map_eq_some_iff] at hd
      obtain ⟨n, hn, rfl⟩ := hd
      obtain ⟨e1, b, rfl⟩ := hus _ n u hn hu
      exact .gr (.atom (.bp e1))

theorem evsK_two {gl : Nat → Option (List D)} {args : List Operand} {K : List D → Prop} (h : evsK gl tm args K) : ∃ ds, K ds ∧ ds.length = args.length ∧ ∀ (i : Nat) (x : Operand) (d : D), args[i]? = some x → ds[i]? = some d → ev gl tm x = some d := evs_get h

theorem op_sound (hty : TyOk E) (hk : awpOp E o tm S nx K) : Ok1 E o tm S nx K := by
  unfold awpOp at hk
  split at hk
  · -- move
    rename_i x ho
    replace hk := evK_inv hk
    obtain ⟨d, hx, hk⟩ := hk
    exact ok_move (.inl ho) hx hk
  · -- assign
    rename_i x ho
    replace hk := evK_inv hk
    obtain ⟨d, hx, hk⟩ := hk
    split at hk
    · split at hk
      · split at hk
        · exact ok_nil ho hx hk
        · exact ok_move (.inr ho) hx hk
      · exact ok_move (.inr ho) hx hk
    · exact ok_move (.inr ho) hx hk
  · -- pick
    rename_i c x y ho
    replace hk := evK_inv hk
    obtain ⟨d, hx, hk⟩ := hk
    split at hk
    · rename_i z
      replace hk := bsplit_elim hk
      cases z
      · replace hk := evK_inv hk
        obtain ⟨d, hy, hk⟩ := hk
        exact ok_pick ho hx hy hk
      · replace hk := evK_inv hk
        obtain ⟨d, hy, hk⟩ := hk
        exact ok_pick ho hx hy hk
    · exact hk.elim
  · -- alloc
    rename_i e ho
    replace hk := tyK_inv hk
    obtain ⟨td, ht, hk⟩ := hk
    exact ok_alloc hty ho ht hk
  · -- box
    rename_i e x ho
    replace hk := evK_inv hk
    obtain ⟨d, hx, hk⟩ := hk
    split at hk
    · exact hk.elim
    · rename_i ht
      exact ok_box ho hx ht hk
  · -- build
    rename_i t parts ho
    replace hk := tyK_inv hk
    obtain ⟨td, ht, hk⟩ := hk
    split at hk
    · rename_i pl hkd
      exact ok_build hty ho ht hkd hk
    · exact hk.elim
  · -- buildSlice
    rename_i t n parts ho
    replace hk := tyK_inv hk
    obtain ⟨td, ht, hk⟩ := hk
    split at hk
    · rename_i e hkd
      replace hk := tyK_inv hk
      obtain ⟨te, hte, hk⟩ := hk
      exact ok_buildSlice hty ho ht hkd hte hk
    · exact hk.elim
  · -- load
    rename_i t x ho
    replace hk := evK_inv hk
    obtain ⟨d, hx, hk⟩ := hk
    replace hk := tyK_inv hk
    obtain ⟨td, ht, hk⟩ := hk
    exact ok_load hty ho hx ht hk
  · -- store
    rename_i t x y ho
    replace hk := evK_inv hk
    obtain ⟨da, hx, hk⟩ := hk
    replace hk := evK_inv hk
    obtain ⟨dx, hy, hk⟩ := hk
    replace hk := tyK_inv hk
    obtain ⟨td, ht, hk⟩ := hk
    split at hk
    · rename_i hb
      simp only [Bool.and_eq_true] at hb
      exact ok_store hty ho hx hy ht (Nat.eq_of_beq_eq_true hb.1) (by simpa using hb.2) hk
    · exact hk.elim
  · -- fieldAddr
    rename_i t x f ho
    replace hk := evK_inv hk
    obtain ⟨d, hx, hk⟩ := hk
    replace hk := tyK_inv hk
    obtain ⟨td, ht, hk⟩ := hk
    split at hk
    · rename_i pl hkd
      exact ok_fieldAddr hty ho hx ht hkd hk
    · exact hk.elim
  · -- indexAddr
    rename_i t x i ho
    replace hk := evK_inv hk
    obtain ⟨d, hx, hk⟩ := hk
    replace hk := evK_inv hk
    obtain ⟨di, hi, hk⟩ := hk
    replace hk := tyK_inv hk
    obtain ⟨td, ht, hk⟩ := hk
    split at hk
    · rename_i e kd n hkd
      replace hk := tyK_inv hk
      obtain ⟨te, hte, hk⟩ := hk
      exact ok_indexAddr hty ho hx hi ht hkd hte hk
    · rename_i m e kd n hkd
      replace hk := tyK_inv hk
      obtain ⟨te, hte, hk⟩ := hk
      split at hk
      · rename_i cs hz
        obtain ⟨j, c, rfl, hj, hc, hk⟩ := hk
        exact ok_indexArr hty ho hx hi ht hkd hte (Nat.eq_of_beq_eq_true hz) hj hc hk
      · exact hk.elim
    · exact hk.elim
  · -- index
    rename_i t x i ho
    replace hk := evK_inv hk
    obtain ⟨d, hx, hk⟩ := hk
    replace hk := evK_inv hk
    obtain ⟨di, hi, hk⟩ := hk
    replace hk := tyK_inv hk
    obtain ⟨td, ht, hk⟩ := hk
    split at hk
    · rename_i l kd n hkd
      obtain ⟨j, c, rfl, hc, hk⟩ := hk
      exact ok_index hty ho hx hi ht hkd hc hk
    · exact hk.elim
  · -- binOp
    rename_i op t x y yt ho
    replace hk := evK_inv hk
    obtain ⟨dx, hx, hk⟩ := hk
    replace hk := evK_inv hk
    obtain ⟨dy, hy, hk⟩ := hk
    split at hk
    · replace hk := tyK_inv hk
      obtain ⟨td, ht, hk⟩ := hk
      split at hk
      · rename_i hkd
        exact ok_bool hty ho hx hy ht hkd hk
      · exact hk.elim
    · replace hk := tyK_inv hk
      obtain ⟨td, ht, hk⟩ := hk
      split at hk
      · rename_i c hc
        exact ok_agg hty ho hx hy ht hc hk
      · exact hk.elim
    · unfold binOpK at hk
      split at hk
      · split at hk
        · rename_i hkk
          have := of_decide_eq_true hkk
          subst this
          exact ok_int ho hx hy hk
        · exact hk.elim
      · exact ok_str ho hx hy hk
      · exact hk.elim
  · -- unOp
    rename_i op t x ho
    replace hk := evK_inv hk
    obtain ⟨d, hx, hk⟩ := hk
    split at hk
    · exact ok_not ho hx hk
    · obtain ⟨r, rfl, hk⟩ := hk
      exact ok_neg ho hx hk
    · exact hk.elim
  · -- convert
    rename_i s t x ho
    replace hk := evK_inv hk
    obtain ⟨d, hx, hk⟩ := hk
    replace hk := tyK_inv hk
    obtain ⟨ts, hs, hk⟩ := hk
    replace hk := tyK_inv hk
    obtain ⟨td, ht, hk⟩ := hk
    unfold convK at hk
    split at hk
    · rename_i h1 h2
      obtain ⟨r, rfl, hk⟩ := hk
      exact ok_convInt hty ho hx hs ht h1 h2 hk
    · rename_i h1 h2
      exact ok_convStr hty ho hx hs ht h1 h2 hk
    · rename_i e d' h1 h2
      replace hk := tyK_inv hk
      obtain ⟨te, hte, hk⟩ := hk
      split at hk
      · rename_i xs h3 h4
        obtain ⟨l, rfl, hl, hk⟩ := hk
        exact ok_convBytes hty ho hx hs ht hte h1 h2 h3 h4 hk
      · exact hk.elim
    · exact hk.elim
  · -- slice
    rename_i t x lo hi ho
    replace hk := evK_inv hk
    obtain ⟨d, hx, hk⟩ := hk
    replace hk := tyK_inv hk
    obtain ⟨td, ht, hk⟩ := hk
    exact ok_slice hty ho hx ht hk
  · -- makeSlice
    rename_i t l c ho
    replace hk := evK_inv hk
    obtain ⟨dl, hl, hk⟩ := hk
    replace hk := evK_inv hk
    obtain ⟨dc, hc, hk⟩ := hk
    replace hk := tyK_inv hk
    obtain ⟨td, ht, hk⟩ := hk
    split at hk
    · rename_i e k1 m k2 m' hkd
      replace hk := tyK_inv hk
      obtain ⟨te, hte, hk⟩ := hk
      obtain ⟨n, rfl, rfl, hn, hb, hk⟩ := hk
      exact ok_make hty ho ht hkd hte hl hc hn hb hk
    · exact hk.elim
  · -- extract
    rename_i x i ho
    replace hk := evK_inv hk
    obtain ⟨d, hx, hk⟩ := hk
    split at hk
    · split at hk
      · rename_i d' hd
        exact ok_extract ho hx hd hk
      · exact hk.elim
    · exact hk.elim
  · -- nilCheck
    rename_i x ho
    replace hk := evK_inv hk
    obtain ⟨d, hx, hk⟩ := hk
    split at hk
    · exact ok_nilCheck ho hx (.inl ⟨_, _, rfl⟩) hk
    · exact ok_nilCheck ho hx (.inr (.inl ⟨_, _, _, _, rfl⟩)) hk
    · exact ok_nilCheck ho hx (.inr (.inr ⟨_, rfl⟩)) hk
    · exact hk.elim
  · -- makeFunc
    rename_i f first caps ho
    replace hk := evs_get hk
    obtain ⟨ds, hk, hl, hev⟩ := hk
    split at hk
    · rename_i hf hb
      exact ok_makeFunc ho hf hl hev hb hk
    · exact hk.elim
  · -- call
    rename_i c ho
    obtain ⟨callee, args, tys⟩ := c
    replace hk := evs_get hk
    obtain ⟨ds, hk, hl, hev⟩ := hk
    split at hk
    · -- builtin
      rename_i b hcal
      simp only at hcal hk hl hev
      subst hcal
      unfold builtinK at hk
      split at hk
      · -- len
        rename_i d
        split at hk
        · rename_i t htys
          replace hk := tyK_inv hk
          obtain ⟨td, ht, hk⟩ := hk
          obtain ⟨x, hx⟩ : ∃ x, args = #[x] := by
            obtain ⟨l⟩ := args
            match l, hl with
            | [x], _ => exact ⟨x, rfl⟩
          refine ok_len hty ho hx (by apply Array.ext'; simpa using htys) (hev 0 x d (by simp [hx]) rfl) ht hk
        · exact hk.elim
      · -- append
        rename_i dx dy
        split at hk
        · rename_i t t' htys
          obtain ⟨x, y, hxy⟩ : ∃ x y, args = #[x, y] := by
            obtain ⟨l⟩ := args
            match l, hl with
            | [x, y], _ => exact ⟨x, y, rfl⟩
          have hty2 : tys = #[t, t'] := by apply Array.ext'; simpa using htys
          subst hxy
          subst hty2
          have hx := hev 0 x dx rfl rfl
          have hy := hev 1 y dy rfl rfl
          split at hk
          · rename_i hb
            have htt : t' = t := (Nat.eq_of_beq_eq_true hb).symm
            exact ok_append hty ho hx hy (dy := dy) (.inl ⟨htt, rfl⟩) hk (fun h => absurd htt h)
          · replace hk := tyK_inv hk
            obtain ⟨td', ht', hk⟩ := hk
            replace hk := tyK_inv hk
            obtain ⟨td, ht, hk⟩ := hk
            split at hk
            · rename_i l e h1 h2
              replace hk := tyK_inv hk
              obtain ⟨te, hte, hbt, hk⟩ := hk
              refine ok_append hty ho hx hy (dy := .sl (bytesOf l)) (.inr ⟨l, td', rfl, rfl, ht', h1⟩) hk fun _ td2 e2 te2 q1 q2 q3 => ?_
              rw [ht] at q1
              cases q1
              rw [h2] at q2
              cases q2
              rw [hte] at q3
              cases q3
              exact hbt
            · exact hk.elim
        · exact hk.elim
      · rename_i m n
        obtain ⟨x, y, hxy⟩ : ∃ x y, args = #[x, y] := by
          obtain ⟨l⟩ := args
          match l, hl with
          | [x, y], _ => exact ⟨x, y, rfl⟩
        subst hxy
        exact ok_minmax ho (.inl rfl) (hev 0 x _ rfl rfl) (hev 1 y _ rfl rfl) (by simpa using hk)
      · rename_i m n
        obtain ⟨x, y, hxy⟩ : ∃ x y, args = #[x, y] := by
          obtain ⟨l⟩ := args
          match l, hl with
          | [x, y], _ => exact ⟨x, y, rfl⟩
        subst hxy
        exact ok_minmax ho (.inr rfl) (hev 0 x _ rfl rfl) (hev 1 y _ rfl rfl) (by simpa using hk)
      · exact hk.elim
    · rename_i f hcal
      simp only at hcal
      subst hcal
      exact ok_callFn ho hl hev hk
    · rename_i t hcal
      simp only at hcal
      subst hcal
      split at hk
      · rename_i f cs ht
        exact ok_callVal ho ht hl hev hk
      · exact hk.elim
    · exact hk.elim
  · exact hk.elim
end
end Go.Ab
