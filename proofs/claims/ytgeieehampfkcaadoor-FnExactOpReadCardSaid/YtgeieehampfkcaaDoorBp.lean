/- An abstract reading of the elaborated code. Part 16: operations in every order. -/
import Derived.Test.YtgeieehampfkcaaDoorBo
import Derived.Orders
namespace Go.Ab
open Go Go.RowKit

/-! what holds at a place behind some of the steps -/
section trace
variable {κ β : Type} (W : Nat → κ → Option β) (base : κ → β)
def atL (L : Nat → Bool) : Nat → κ → β
  | 0, c => base c
  | m + 1, c => if L m then (W m c).getD (atL L m c) else atL L m c
def all_ : Nat → Bool := fun _ => true
variable {W base}
theorem atL_upto {L : Nat → Bool} {c : κ} {i : Nat} (h : ∀ m, m < i → (W m c).isSome → L m = true) : ∀ m, m ≤ i → atL W base L m c = atL W base all_ m c
  | 0, _ => rfl
  | m + 1, hm => by
    have ih := atL_upto h m (by omega)
    simp only [atL, all_, if_true]
    cases hw : W m c with
    | none => simp [ih]
    | some b => simp [h m (by omega) (by rw [hw]; rfl), ih]
theorem atL_from {L : Nat → Bool} {c : κ} {i : Nat} : ∀ (n : Nat), i ≤ n → (∀ m, i ≤ m → m < n → L m = true → W m c = none) → atL W base L n c = atL W base L i c
  | 0, hn, _ => by have : i = 0 := by omega
                   subst this; rfl
  | n + 1, hn, h => by
    by_cases e : i = n + 1
    · subst e; rfl
    · have ih := atL_from n (by omega) (fun m h1 h2 => h m h1 (by omega))
      simp only [atL]
      split
      · rename_i hl
        rw [h n (by omega) (by omega) hl]
        exact ih
      · exact ih
/-- what a step that is ready finds is what it found in the order of the text -/
theorem atL_ready {L : Nat → Bool} {c : κ} {i n : Nat} (hi : i ≤ n) (h1 : ∀ m, m < i → (W m c).isSome → L m = true) (h2 : ∀ m, i ≤ m → m < n → L m = true → W m c = none) : atL W base L n c = atL W base all_ i c := by
  rw [atL_from n hi h2, atL_upto h1 i (Nat.le_refl _)]
def setL (L : Nat → Bool) (i : Nat) : Nat → Bool := fun j => if j = i then true else L j
theorem atL_set_below {L : Nat → Bool} {c : κ} {i : Nat} : ∀ m, m ≤ i → atL W base (setL L i) m c = atL W base L m c
  | 0, _ => rfl
  | m + 1, hm => by
    have : setL L i m = L m := by simp [setL]; omega
    have ih := atL_set_below (L := L) (c := c) (i := i) m (by omega)
    simp only [atL, this, ih]
theorem atL_set {L : Nat → Bool} {c : κ} {i n : Nat} (hi : i < n) (hL : L i = false) (h : (W i c).isSome → ∀ m, i < m → m < n → L m = true → W m c = none) : atL W base (setL L i) n c = (W i c).getD (atL W base L n c) := by
  have key : ∀ m, i < m → m ≤ n → atL W base (setL L i) m c = (W i c).getD (atL W base L m c) := by
    intro m
    induction m with
    | zero => intro h; omega
    | succ m ih =>
      intro h1 h2
      by_cases e : m = i
      · subst e
        have e1 : setL L m m = true := by simp [setL]
        simp only [atL, e1, if_true, hL, Bool.false_eq_true, if_false, atL_set_below m (Nat.le_refl _)]
      · have ih := ih (by omega) (by omega)
        have e1 : setL L i m = L m := by simp [setL, e]
        simp only [atL, e1]
        split
        · rename_i hl
          cases hw : W i c with
          | none => rw [hw] at ih; simp only [Option.getD_none] at ih ⊢; rw [ih]
          | some b =>
            rw [hw] at ih
            have := h (by rw [hw]; rfl) m (by omega) (by omega) hl
            rw [this]
            simpa using ih
        · exact ih
  exact key n hi (Nat.le_refl _)
end trace

/-- how many are not listed -/
def cntL (L : Nat → Bool) : Nat → Nat
  | 0 => 0
  | n + 1 => cntL L n + if L n then 0 else 1
theorem cntL_set {L : Nat → Bool} {i : Nat} (hL : L i = false) : ∀ n, i < n → cntL (setL L i) n + 1 = cntL L n
  | 0, h => by omega
  | n + 1, h => by
    by_cases e : n = i
    · subst e
      have same : ∀ m, m ≤ n → cntL (setL L n) m = cntL L m := by
        intro m
        induction m with
        | zero => intro _; rfl
        | succ m ih =>
          intro hm
          have : setL L n m = L m := by simp [setL]; omega
          simp only [cntL, this, ih (by omega)]
      simp [cntL, same n (Nat.le_refl _), hL, setL]
    · have := cntL_set hL n (by omega)
      have e1 : setL L i n = L n := by simp [setL, e]
      simp only [cntL, e1]
      omega
theorem cntL_zero {L : Nat → Bool} : ∀ n, cntL L n = 0 → ∀ i, i < n → L i = true
  | 0, _, i, h => by omega
  | n + 1, hz, i, h => by
    simp only [cntL] at hz
    by_cases e : i = n
    · subst e
      cases hl : L i with
      | true => rfl
      | false => rw [hl] at hz; simp at hz
    · exact cntL_zero n (by omega) i (by omega)

section
variable {E : Env} {cx : Cx} {ops : Array Oper}

def Fresh (nx : Nat) (ρ : Nat → Option Value) : Prop := ∀ n, nx ≤ n → ρ n = none
/-- a step in the order of the text -/
structure Mk where
  fp : Fp
  d : D
  out : Out
  nx : Nat
  nx' : Nat
  go : Bool
  tm : Tm
  S : Store
def wantedA (ops : Array Oper) (o : Oper) (tm : Tm) : Option Bool :=
  match o.guard with
  | none => some true
  | some (j, want) => match (ops[j]?).bind (·.dst) with
    | none => none
    | some t => match lk tm t with
      | some (.b x) => some (x == want)
      | some (.tup []) => some false
      | _ => none
structure Stp (E : Env) (ops : Array Oper) (o : Oper) (m : Mk) (tm' : Tm) (S' : Store) : Prop where
  want : wantedA ops o m.tm = some m.go
  run : m.go = true → LStep E o m.tm m.S m.fp.all m.nx m.nx' m.d m.out
  skip : m.go = false → m.d = .tup [] ∧ m.out = [] ∧ m.nx' = m.nx
  wr : ∀ n, lk m.out n ≠ none → n ∈ m.fp.wr
  sub : ∀ n ∈ m.fp.wr, n ∈ m.fp.all
  le : m.nx ≤ m.nx'
  tm' : ∀ t, lk tm' t = lk (put o.dst m.d m.tm) t
  S' : ∀ n, lk S' n = lk (ap m.out m.S) n
def Run (E : Env) (ops : Array Oper) : List Oper → Tm → Store → Nat → List Mk → Tm → Store → Nat → Prop
  | [], tm, S, nx, ms, tm', S', nx' => ms = [] ∧ tm' = tm ∧ S' = S ∧ nx' = nx
  | o :: r, tm, S, nx, ms, tm', S', nx' => ∃ m q tm1 S1, ms = m :: q ∧ m.tm = tm ∧ m.S = S ∧ m.nx = nx ∧ Stp E ops o m tm1 S1 ∧ Run E ops r tm1 S1 m.nx' q tm' S' nx'

theorem LStep.ext {o : Oper} {tm tm1 : Tm} {S : Store} {fp : List Nat} {nx nx' : Nat} {d : D} {out : Out} (h : LStep E o tm1 S fp nx nx' d out) (ht : ∀ t, lk tm1 t = lk tm t) : LStep E o tm S fp nx nx' d out := by
  intro cx tm' S' a w ρ Q hd he
  refine h cx tm' S' a w ρ Q hd fun x hx => ?_
  rw [he x hx]
  cases x <;> simp [ev, ht]

theorem run_of_awp (hty : TyOk E) : ∀ (l : List Oper) (tm : Tm) (S : Store) (nx : Nat) (fs : List Fp) (K : List Fp → Tm → Store → Nat → Prop), awpOps E ops l tm S nx fs K →
    ∃ ms tm' S' nx', Run E ops l tm S nx ms tm' S' nx' ∧ K ((ms.map (·.fp)).reverse ++ fs) tm' S' nx'
  | [], tm, S, nx, fs, K, h => ⟨[], tm, S, nx, ⟨rfl, rfl, rfl, rfl⟩, h⟩
  | o :: r, tm, S, nx, fs, K, h => by
    have go : ∀ tm1 : Tm, (∀ t, lk tm1 t = lk tm t) → wantedA ops o tm = some true → awpOp E o tm1 S nx (fun fp tm S nx => awpOps E ops r tm S nx (fp :: fs) K) →
        ∃ ms tm' S' nx', Run E ops (o :: r) tm S nx ms tm' S' nx' ∧ K ((ms.map (·.fp)).reverse ++ fs) tm' S' nx' := by
      intro tm1 ht hw h
      obtain ⟨fp, out, nx1, d, S2, h1, h2, h3, h4, _, h5, h6⟩ := op_sound hty h
      obtain ⟨ms, tm', S', nx', h7, h8⟩ := run_of_awp hty r _ _ _ _ _ h6
      refine ⟨⟨fp, d, out, nx, nx1, true, tm, S⟩ :: ms, tm', S', nx', ⟨_, _, _, _, rfl, rfl, rfl, rfl, ⟨hw, fun _ => h1.ext ht, by simp, h2, h3, h4, fun t => ?_, h5⟩, h7⟩, by simpa using h8⟩
      cases hdst : o.dst <;> simp [put, ht, lk_cons]
    have skip : ∀ tm1 : Tm, (∀ t, lk tm1 t = lk tm t) → wantedA ops o tm = some false → awpOps E ops r (put o.dst (.tup []) tm1) S nx (fp0 :: fs) K →
        ∃ ms tm' S' nx', Run E ops (o :: r) tm S nx ms tm' S' nx' ∧ K ((ms.map (·.fp)).reverse ++ fs) tm' S' nx' := by
      intro tm1 ht hw h
      obtain ⟨ms, tm', S', nx', h7, h8⟩ := run_of_awp hty r _ _ _ _ _ h
      refine ⟨⟨fp0, .tup [], [], nx, nx, false, tm, S⟩ :: ms, tm', S', nx', ⟨_, _, _, _, rfl, rfl, rfl, rfl, ⟨hw, by simp, fun _ => ⟨rfl, rfl, rfl⟩, by simp [lk], by simp [fp0], Nat.le_refl _, fun t => ?_, fun n => rfl⟩, h7⟩, by simpa using h8⟩
      cases hdst : o.dst <;> simp [put, ht, lk_cons]
    unfold awpOps at h
    split at h
    · rename_i hg
      exact go tm (fun _ => rfl) (by simp [wantedA, hg]) h
    · rename_i j want hg
      split at h
      · exact h.elim
      · rename_i t hj
        split at h
        · rename_i x hx
          have h := bsplit_elim h
          have hsame : ∀ t', lk ((t, D.b x) :: tm) t' = lk tm t' := by
            intro t'
            rw [lk_cons]
            by_cases e : t = t'
            · subst e; rw [if_pos rfl, hx]
            · rw [if_neg e]
          have hw : wantedA ops o tm = some (x == want) := by simp [wantedA, hg, hj, hx]
          cases want <;> cases x
          · exact go _ hsame (by rw [hw]; rfl) h
          · exact skip _ hsame (by rw [hw]; rfl) h
          · exact skip _ hsame (by rw [hw]; rfl) h
          · exact go _ hsame (by rw [hw]; rfl) h
        · rename_i hx
          exact skip tm (fun _ => rfl) (by simp [wantedA, hg, hj, hx]) h
        · exact h.elim

theorem yielded_at {tmps : Array Value} {j t : Nat} (hj : (ops[j]?).bind (·.dst) = some t) : yielded ops tmps j = match tmps[t]? with | some (.bool b) => some b | _ => none := by
  unfold yielded
  rw [hj]
  rfl
theorem getD_bool {tmps : Array Value} {t : Nat} {x : Bool} (h : tmps.getD t undef = .bool x) : tmps[t]? = some (.bool x) := by
  rw [Array.getD_eq_getD_getElem?] at h
  cases hc : tmps[t]? with
  | none => rw [hc] at h; simp [undef] at h
  | some v => rw [hc] at h; simp at h; rw [h]
/-- whether an operation is carried out, is known -/
theorem wanted_of {o : Oper} {tm : Tm} {S : Store} {a : Act} {w : World} {ρ : Nat → Option Value} (h : R E cx tm S a w ρ) {x : Bool} (hw : wantedA ops o tm = some x) : Region.wanted o (yielded ops a.tmps) = x := by
  unfold wantedA at hw
  split at hw
  · rename_i hg
    cases hw
    simp [Region.wanted, hg]
  · rename_i j want hg
    split at hw
    · cases hw
    · rename_i t hj
      split at hw
      · rename_i y hy
        cases hw
        have hv : a.tmps[t]? = some (.bool y) := getD_bool (h.tm t _ hy).b_inv
        have hyl : yielded ops a.tmps j = some y := by rw [yielded_at hj, hv]
        simp [Region.wanted, hg, hyl]
      · rename_i hy
        cases hw
        have hv : a.tmps.getD t undef = undef := by
          obtain ⟨us, h1, h2, _⟩ := (h.tm t _ hy).tup_inv
          have : us = [] := List.eq_nil_of_length_eq_zero h2.symm
          rw [h1, this]
          rfl
        have hyl : yielded ops a.tmps j = none := by
          rw [yielded_at hj]
          cases hc : a.tmps[t]? with
          | none => rfl
          | some v =>
            rw [Array.getD_eq_getD_getElem?, hc] at hv
            simp at hv
            subst hv
            rfl
        simp [Region.wanted, hg, hyl]
      · cases hw

def operOk (N : Nat) (o : Oper) : Bool :=
  match o.dst with
  | some t => Nat.blt t N
  | none => true
def opersOk (N : Nat) : List Oper → Bool
  | [] => true
  | o :: r => operOk N o && opersOk N r
theorem operOk_dst {N : Nat} {o : Oper} (h : operOk N o = true) : ∀ t, o.dst = some t → t < N := by
  intro t ht
  unfold operOk at h
  rw [ht] at h
  exact Nat.le_of_ble_eq_true h

/-- one after the other, as the text has them -/
theorem run_sound {Q : Exit → Act → World → Prop} {tmf : Tm} {Sf : Store} {nxf : Nat} (hQ : ∀ a w ρ, R E cx tmf Sf a w ρ → Fresh nxf ρ → Q .normal a w) :
    ∀ (l : List Oper) (tm : Tm) (S : Store) (nx : Nat) (ms : List Mk) (a : Act) (w : World) (ρ : Nat → Option Value), opersOk cx.N l = true → Run E ops l tm S nx ms tmf Sf nxf → R E cx tm S a w ρ → Fresh nx ρ → wpList E.P ops Q l a w
  | [], tm, S, nx, ms, a, w, ρ, _, ⟨_, h1, h2, h3⟩, h, hf => by subst h1 h2 h3; exact wpList_nil (hQ _ _ _ h hf)
  | o :: r, tm, S, nx, ms, a, w, ρ, hok, ⟨m, q, tm1, S1, _, e1, e2, e3, hs, hr⟩, h, hf => by
    subst e1 e2 e3
    simp only [opersOk, Bool.and_eq_true] at hok
    refine wpList_step fun K' hK' => ?_
    rw [wanted_of h hs.want]
    cases hgo : m.go with
    | true =>
      rw [if_pos rfl]
      have := hs.run hgo cx m.tm m.S a w ρ Q (operOk_dst hok.1) (fun _ _ => rfl) (fun _ _ => rfl) h (fun n h1 _ => hf n h1)
      refine Oper.wp_mono (fun a' w' hn => ?_) this
      obtain ⟨ρ', h1, h2⟩ := hn
      have hf' : Fresh m.nx' ρ' := by
        intro n hn
        rw [h2 n (by omega)]
        exact hf n (Nat.le_trans hs.le hn)
      exact hK' _ _ (run_sound hQ r tm1 S1 m.nx' q a' w' ρ' hok.2 hr (h1.ext hs.tm' hs.S') hf')
    | false =>
      rw [if_neg (by simp)]
      obtain ⟨k1, k2, k3⟩ := hs.skip hgo
      have h1 := h.value (operOk_dst hok.1) (VR.undef)
      refine hK' _ _ (run_sound hQ r tm1 S1 m.nx' q _ w ρ hok.2 hr (h1.ext (fun t => ?_) (fun n => ?_)) (by rw [k3]; exact hf))
      · rw [hs.tm', k1]
      · rw [hs.S', k2]; rfl

/-! in every order -/
theorem bit_or (a b i : Nat) : bitAt (Nat.lor a b) i = (bitAt a i || bitAt b i) := by
  have h : ∀ m, bitAt m i = m.testBit i := by
    intro m
    unfold bitAt
    rw [Nat.testBit_eq_decide_div_mod_eq]
    show Nat.beq (m >>> i % 2) 1 = _
    rw [Nat.shiftRight_eq_div_pow]
    by_cases e : m / 2 ^ i % 2 = 1
    · rw [e]; simp
    · simp [e, beq_no e]
  rw [h, h, h]
  exact Nat.testBit_or a b i
theorem bit_one (k i : Nat) : bitAt (Nat.shiftLeft 1 k) i = decide (i = k) := by
  have h : bitAt (Nat.shiftLeft 1 k) i = (1 <<< k).testBit i := by
    unfold bitAt
    rw [Nat.testBit_eq_decide_div_mod_eq]
    show Nat.beq ((1 <<< k) >>> i % 2) 1 = _
    rw [Nat.shiftRight_eq_div_pow]
    by_cases e : (1 <<< k) / 2 ^ i % 2 = 1
    · rw [e]; simp
    · simp [e, beq_no e]
  rw [h, Nat.one_shiftLeft, Nat.testBit_two_pow]
  by_cases e : i = k
  · subst e; simp
  · have : ¬ k = i := fun h => e h.symm
    simp [e, this]
theorem bit_zero (i : Nat) : bitAt 0 i = false := by
  unfold bitAt
  show Nat.beq (0 >>> i % 2) 1 = false
  simp
  rfl
theorem aheadOf_bit {bs : List Nat} {i : Nat} : ∀ {l : List Edge}, bitAt (aheadOf bs l) i = true → ∃ e ∈ l, Region.binds .any e = true ∧ (i = e.on ∨ bitAt (bs.getD e.on 0) i = true)
  | [], h => by simp [aheadOf, bit_zero] at h
  | e :: r, h => by
    simp only [aheadOf] at h
    split at h
    · rename_i hb
      rw [bit_or, bit_or, bit_one] at h
      simp only [Bool.or_eq_true, decide_eq_true_eq] at h
      rcases h with (h | h) | h
      · exact ⟨e, by simp, hb, .inl h⟩
      · exact ⟨e, by simp, hb, .inr h⟩
      · obtain ⟨e', h1, h2, h3⟩ := aheadOf_bit h
        exact ⟨e', by simp [h1], h2, h3⟩
    · obtain ⟨e', h1, h2, h3⟩ := aheadOf_bit h
      exact ⟨e', by simp [h1], h2, h3⟩
/-- the bits of the operations, one after the other -/
theorem aheads_spec : ∀ (l : List Oper) (bs : List Nat), (∀ (j : Nat), j < bs.length → (aheads l bs)[j]? = bs[j]?) ∧ (aheads l bs).length = bs.length + l.length ∧
    ∀ (j : Nat) (o : Oper), l[j]? = some o → (∀ e ∈ o.after.toList, Region.binds .any e = true → e.on < bs.length + j) → ∀ i, bitAt ((aheads l bs).getD (bs.length + j) 0) i = true → ∃ e ∈ o.after.toList, Region.binds .any e = true ∧ (i = e.on ∨ bitAt ((aheads l bs).getD e.on 0) i = true)
  | [], bs => ⟨fun j _ => rfl, rfl, by simp⟩
  | o :: r, bs => by
    obtain ⟨h1, h2, h3⟩ := aheads_spec r (bs ++ [aheadOf bs o.after.toList])
    refine ⟨fun j hj => ?_, by simp only [aheads, h2]; simp; omega, fun j o' hj he i hb => ?_⟩
    · simp only [aheads]
      rw [h1 j (by simp; omega), List.getElem?_append_left hj]
    · cases j with
      | zero =>
        simp at hj
        subst hj
        simp only [aheads, Nat.add_zero] at hb ⊢
        have hat : (aheads r (bs ++ [aheadOf bs o.after.toList])).getD bs.length 0 = aheadOf bs o.after.toList := by
          simp only [List.getD]
          rw [h1 bs.length (by simp), List.getElem?_append_right (Nat.le_refl _)]
          simp
        rw [hat] at hb
        obtain ⟨e, q1, q2, q3⟩ := aheadOf_bit hb
        refine ⟨e, q1, q2, q3.imp id fun q => ?_⟩
        have hlt := he e q1 q2
        have : (aheads r (bs ++ [aheadOf bs o.after.toList])).getD e.on 0 = bs.getD e.on 0 := by
          simp only [List.getD]
          rw [h1 e.on (by simp; omega), List.getElem?_append_left (by omega)]
        rw [this]
        exact q
      | succ j =>
        have := h3 j o' (by simpa using hj) (fun e q1 q2 => by have := he e q1 q2; simp; omega) i
        simp only [aheads]
        simp only [aheads] at hb
        have hlen : (bs ++ [aheadOf bs o.after.toList]).length + j = bs.length + (j + 1) := by simp; omega
        rw [hlen] at this
        exact this hb

theorem meets_iff {l q : List Nat} : meets l q = true ↔ ∃ n, n ∈ l ∧ n ∈ q := by
  induction l with
  | nil => simp [meets]
  | cons m r ih =>
    simp only [meets, Bool.or_eq_true, memB_iff, ih]
    constructor
    · rintro (h | ⟨n, h1, h2⟩)
      · exact ⟨m, by simp, h⟩
      · exact ⟨n, by simp [h1], h2⟩
    · rintro ⟨n, h1, h2⟩
      rcases List.mem_cons.1 h1 with rfl | h1
      · exact .inl h2
      · exact .inr ⟨n, h1, h2⟩
theorem clearOf_get {fp : Fp} {ms : List Nat} {dst : Option Nat} {m : Nat} : ∀ {acc : List (Fp × List Nat × Option Nat)} {k : Nat}, clearOf fp ms dst m acc k = true → ∀ (i : Nat) (fq : Fp) (mq : List Nat) (dq : Option Nat), acc[i]? = some (fq, mq, dq) →
    bitAt m (k + i) = true ∨ ((∀ n, n ∈ fp.wr → n ∉ fq.all) ∧ (∀ n, n ∈ fq.wr → n ∉ fp.all) ∧ (∀ t, dst = some t → t ∉ mq) ∧ ∀ t, dq = some t → t ∉ ms)
  | [], k, h, i, fq, mq, dq, hi => by simp at hi
  | (f0, m0, d0) :: r, k, h, i, fq, mq, dq, hi => by
    simp only [clearOf, Bool.and_eq_true] at h
    obtain ⟨h1, h2⟩ := h
    cases i with
    | zero =>
      simp at hi
      obtain ⟨rfl, rfl, rfl⟩ := hi
      simp only [Bool.or_eq_true, Bool.not_eq_true', Nat.add_zero] at h1 ⊢
      refine h1.imp id fun h1 => ?_
      simp only [Bool.or_eq_false_iff] at h1
      obtain ⟨⟨⟨c1, c2⟩, c3⟩, c4⟩ := h1
      refine ⟨fun n p q => ?_, fun n p q => ?_, fun t ht hm => ?_, fun t ht hm => ?_⟩
      · rw [meets_iff.2 ⟨n, p, q⟩] at c1; cases c1
      · rw [meets_iff.2 ⟨n, p, q⟩] at c2; cases c2
      · subst ht; simp only at c3; rw [memB_iff.2 hm] at c3; cases c3
      · subst ht; simp only at c4; rw [memB_iff.2 hm] at c4; cases c4
    | succ i =>
      have := clearOf_get h2 i fq mq dq (by simpa using hi)
      have e : k + 1 + i = k + (i + 1) := by omega
      rw [e] at this
      exact this
theorem clearAll_get {bs : List Nat} : ∀ {l : List Oper} {fs : List Fp} {acc : List (Fp × List Nat × Option Nat)} {k : Nat}, clearAll ops bs l fs acc k = true → acc.length = k → ∀ (j : Nat) (o : Oper) (fp : Fp), l[j]? = some o → fs[j]? = some fp →
    clearOf fp (mentions ops o) o.dst (bs.getD (k + j) 0) (acc ++ (((l.zip fs).take j).map fun (o, f) => (f, mentions ops o, o.dst))) 0 = true
  | [], fs, acc, k, h, ha, j, o, fp, hj, _ => by simp at hj
  | o0 :: r, [], acc, k, h, ha, j, o, fp, hj, hf => by simp at hf
  | o0 :: r, f0 :: fs, acc, k, h, ha, j, o, fp, hj, hf => by
    simp only [clearAll, Bool.and_eq_true] at h
    obtain ⟨h1, h2⟩ := h
    cases j with
    | zero => simp at hj hf; subst hj hf; simpa using h1
    | succ j =>
      have := clearAll_get h2 (by simp [ha]) j o fp (by simpa using hj) (by simpa using hf)
      have e : k + 1 + j = k + (j + 1) := by omega
      rw [e] at this
      simpa using this
end
end Go.Ab
