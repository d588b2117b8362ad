/- Steps of the symbolic run, in short words; ends of runs of which only something is wanted. -/
import Derived.Test.YtgeieehampfkcaaDoorBx
import Derived.IntWalk
set_option linter.unusedSimpArgs false
set_option linter.unusedVariables false
namespace Go.Ab
open Go Go.RowKit

theorem bn {x : Bool} {K : Bool → Prop} (h : bsplit x fun b => K (!b)) : bsplit (!x) K := by
  cases x
  · exact ⟨fun _ => h.f rfl, fun h => Bool.noConfusion h⟩
  · exact ⟨fun h => Bool.noConfusion h, fun _ => h.t rfl⟩
theorem bd {p : Prop} [Decidable p] {K : Bool → Prop} (h1 : p → K true) (h2 : ¬ p → K false) : bsplit (decide p) K :=
  ⟨fun h => h1 (of_decide_eq_true h), fun h => h2 (of_decide_eq_false h)⟩
theorem bt {p : Prop} [Decidable p] {K : Bool → Prop} (hp : p) (h : K true) : bsplit (decide p) K := bd (fun _ => h) (fun n => absurd hp n)
theorem bf {p : Prop} [Decidable p] {K : Bool → Prop} (hp : ¬ p) (h : K false) : bsplit (decide p) K := bd (fun n => absurd n hp) (fun _ => h)
theorem bT {x : Bool} {K : Bool → Prop} (hx : x = true) (h : K true) : bsplit x K := by subst hx; exact .tt h
theorem bF {x : Bool} {K : Bool → Prop} (hx : x = false) (h : K false) : bsplit x K := by subst hx; exact .ff h
theorem bR {α : Type} {a : α} {i : Decidable (a = a)} {K : Bool → Prop} (h : K true) : bsplit (@decide (a = a) i) K := ⟨fun _ => h, fun n => absurd rfl (of_decide_eq_false n)⟩
theorem bS {x : Bool} {K : Bool → Prop} (h : K true) : bsplit (x == x) K := bT (beq_self_eq_true x) h
theorem wi {n : Int} {K : Int → Prop} (hn : -9223372036854775808 ≤ n ∧ n ≤ 9223372036854775807) (h : K n) : ∃ r, IntKind.i64.wrap n = r ∧ K r := ⟨n, Go.IntWalk.i64_in n hn, h⟩
theorem wb {n : Int} {K : Int → Prop} (hn : 0 ≤ n ∧ n ≤ 255) (h : K n) : ∃ r, IntKind.u8.wrap n = r ∧ K r := ⟨n, Go.IntWalk.u8_in n hn, h⟩
theorem wr {m n : Int} {K : Int → Prop} (hm : 0 ≤ m) (hn : 0 < n) (h : K (m % n)) : n ≠ 0 ∧ ∃ r, m.tmod n = r ∧ K r := ⟨by omega, m % n, Int.tmod_eq_emod_of_nonneg hm, h⟩
theorem wq {m n : Int} {K : Int → Prop} (hm : 0 ≤ m ∧ m ≤ 9223372036854775807) (hn : 0 < n) (h : K (m / n)) : n ≠ 0 ∧ ∃ r, IntKind.i64.wrap (m.tdiv n) = r ∧ K r := ⟨by omega, m / n, Go.IntWalk.i64_quo m n ⟨hm.1, hm.2, hn⟩, h⟩
theorem mg {α β : Type} {l : List α} {f : α → β} {i : Nat} {x : α} (h : l[i]? = some x) : (l.map f)[i]? = some (f x) := by rw [List.getElem?_map, h]; rfl
theorem drop_or {α : Type} (l : List α) (i : Nat) (h : i ≤ l.length) : (i = l.length ∧ l.drop i = []) ∨ ∃ x r, l[i]? = some x ∧ l.drop i = x :: r ∧ l.drop (i + 1) = r ∧ i < l.length := by
  by_cases hl : i < l.length
  · exact .inr ⟨l[i], l.drop (i + 1), List.getElem?_eq_getElem hl, List.drop_eq_getElem_cons hl, rfl, hl⟩
  · exact .inl ⟨by omega, List.drop_of_length_le (by omega)⟩
theorem take_succ {α : Type} {l : List α} {i : Nat} {x : α} (h : l[i]? = some x) : l.take (i + 1) = l.take i ++ [x] := by
  rw [List.take_add_one, h]; rfl
theorem take_map_succ {α β : Type} {l : List α} {f : α → β} {i : Nat} {x : α} (h : l[i]? = some x) : (l.take i).map f ++ [f x] = (l.take (i + 1)).map f := by
  rw [take_succ h, List.map_append]; rfl
theorem all_lt {P : Nat → Prop} {i : Nat} (ha : ∀ k, k < i → P k) (hi : P i) : ∀ k, k < i + 1 → P k := fun k hk => by
  by_cases h : k = i
  · rw [h]; exact hi
  · exact ha k (by omega)
/-- the end of a run of which only something is wanted -/
inductive AnyEnd (P : D → Store → Prop) : Prop where
  | here (h : ∃ d S', P d S')
  | never (h : False)
theorem AnyEnd.out {P : D → Store → Prop} (h : AnyEnd P) : ∃ d S', P d S' := by
  cases h with
  | here h => exact h
  | never h => exact h.elim
theorem anyK.auto {E : Env} {k0 : Nat} {rv : List ResultVar} {G : D → Store → Prop} {tm : Tm} {S : Store} {nx : Nat}
    (h : resK E tm S rv fun ds => nodupB (reachNames S 16 (addNew (news 0 k0) (nmDs ds)) (addNew (news 0 k0) (nmDs ds))) = true ∧ preB 0 k0 (reachNames S 16 (addNew (news 0 k0) (nmDs ds)) (addNew (news 0 k0) (nmDs ds))) = true ∧
      ∃ d, carR (reachNames S 16 (addNew (news 0 k0) (nmDs ds)) (addNew (news 0 k0) (nmDs ds))) (oneRes ds) = some d ∧
      G d (carS (reachNames S 16 (addNew (news 0 k0) (nmDs ds)) (addNew (news 0 k0) (nmDs ds))) S (reachNames S 16 (addNew (news 0 k0) (nmDs ds)) (addNew (news 0 k0) (nmDs ds))) 0)) : ∃ d S', finK E k0 rv d S' tm S nx ∧ G d S' := by
  obtain ⟨ds, h1, h2⟩ := resK_some h
  obtain ⟨g1, g2, d, g3, g4⟩ := h1
  exact ⟨d, _, ⟨[], reachNames S 16 (addNew (news 0 k0) (nmDs ds)) (addNew (news 0 k0) (nmDs ds)), h2 _ ⟨g1, g2, g3, rfl⟩⟩, g4⟩
/-! the same, each list of names laid out once -/
def force {α : Sort 1} : List Nat → (List Nat → α) → α
  | [], k => k []
  | n :: r, k => force r fun r' => k (n :: r')
theorem force_eq {α : Sort 1} : ∀ (l : List Nat) (k : List Nat → α), force l k = k l
  | [], _ => rfl
  | n :: r, k => by rw [force, force_eq r]
def slotF (tm : Tm) : List Nat → List Nat → (List Nat → Prop) → Prop
  | [], ns, k => k ns
  | t :: r, ns, k => match lk tm t with
    | some d => force (addNew ns (nmR d)) fun ns' => slotF tm r ns' k
    | none => slotF tm r ns k
theorem slotF_eq (tm : Tm) : ∀ (ts ns : List Nat) (k : List Nat → Prop), slotF tm ts ns k = k (slotNames tm ts ns)
  | [], _, _ => rfl
  | t :: r, ns, k => by
    unfold slotF slotNames
    cases lk tm t with
    | none => exact slotF_eq tm r ns k
    | some d => simp only [force_eq]; exact slotF_eq tm r _ k
def reachF (S : Store) : Nat → List Nat → List Nat → (List Nat → Prop) → Prop
  | 0, _, ns, k => k ns
  | _ + 1, [], ns, k => k ns
  | f + 1, n :: r, ns, k => match lk S n with
    | some b => force (r ++ minus ns (blkNames b)) fun r' => force (addNew ns (blkNames b)) fun ns' => reachF S f r' ns' k
    | none => reachF S f r ns k
theorem reachF_eq (S : Store) : ∀ (f : Nat) (r ns : List Nat) (k : List Nat → Prop), reachF S f r ns k = k (reachNames S f r ns)
  | 0, _, _, _ => by unfold reachF reachNames; rfl
  | f + 1, [], _, _ => rfl
  | f + 1, n :: r, ns, k => by
    unfold reachF reachNames
    cases lk S n with
    | none => exact reachF_eq S f r ns k
    | some b => simp only [force_eq]; exact reachF_eq S f _ _ k
theorem la {k0 : Nat} {tm : Tm} {S : Store} {nx : Nat} {J : Tm → Store → Nat → Prop} (ts : List Nat)
    (h : slotF tm ts (news 0 k0) fun n0 => reachF S 16 n0 n0 fun ns => nodupB ns = true ∧ preB 0 k0 ns = true ∧ J (carTm ns tm ts) (carS ns S ns 0) ns.length) : landK k0 tm S nx J := by
  rw [slotF_eq, reachF_eq] at h
  exact ⟨[], ts, _, h⟩
theorem fa {E : Env} {k0 : Nat} {rv : List ResultVar} {d : D} {S' : Store} {tm : Tm} {S : Store} {nx : Nat}
    (h : resK E tm S rv fun ds => force (addNew (news 0 k0) (nmDs ds)) fun n0 => reachF S 16 n0 n0 fun ns => nodupB ns = true ∧ preB 0 k0 ns = true ∧ carR ns (oneRes ds) = some d ∧ carS ns S ns 0 = S') : finK E k0 rv d S' tm S nx := by
  simp only [force_eq, reachF_eq] at h
  exact finK.auto h
theorem aa {E : Env} {k0 : Nat} {rv : List ResultVar} {G : D → Store → Prop} {tm : Tm} {S : Store} {nx : Nat}
    (h : resK E tm S rv fun ds => force (addNew (news 0 k0) (nmDs ds)) fun n0 => reachF S 16 n0 n0 fun ns => nodupB ns = true ∧ preB 0 k0 ns = true ∧
      ∃ d, carR ns (oneRes ds) = some d ∧ G d (carS ns S ns 0)) : ∃ d S', finK E k0 rv d S' tm S nx ∧ G d S' := by
  simp only [force_eq, reachF_eq] at h
  exact anyK.auto h
theorem Cd.loop2 {E : Env} {k0 : Nat} {tm : Tm} {S : Store} {nx : Nat} {Q : Ex → Tm → Store → Nat → Prop} {b : Code} (I : Nat → Tm → Store → Nat → Prop) (h0 : landK k0 tm S nx fun t s n => ∃ m, I m t s n) (h : ∀ m tm S nx, I m tm S nx → Cd E k0 b tm S nx fun e tm S nx' => match e with
    | .normal => RoundEnd m fun m' => landK k0 tm S nx' (I m')
    | e => Q e tm S nx') : Cd E k0 (.loop b) tm S nx Q := by
  refine Cd.loop I ?_ h
  obtain ⟨t1, S1, n1, ⟨m, hm⟩, hl⟩ := land_pick h0
  refine ⟨m, ?_⟩
  obtain ⟨ms, ts, ns, hl⟩ := hl
  refine ⟨ms, ts, ns, ?_⟩
  match h1 : mvs ms tm S nx with
  | some (tm1, S1', n1') =>
    rw [h1] at hl
    obtain ⟨a, b, c, d, e⟩ := hl
    exact ⟨a, b, by rw [c, d, e]; exact hm⟩
  | none => rw [h1] at hl; exact hl.elim
end Go.Ab
