/- The symbolic run, a step at a time: each step is a theorem, so that what is left is compared as it stands. -/
import Derived.Test.YtgeieehampfkcaaDoorBv
import Derived.Test.YtgeieehampfkcaaDoorBw
namespace Go.Ab
open Go Go.RowKit

/-- the operations of a region that are still to come (two constructors: no step takes it for a pair) -/
inductive Ops (E : Env) (ops : Array Oper) (l : List Oper) (tm : Tm) (S : Store) (nx : Nat) (fs : List Fp) (K : List Fp → Tm → Store → Nat → Prop) : Prop where
  | mk (h : awpOps E ops l tm S nx fs K)
  | never (h : False)
/-- the code that is still to come -/
inductive Cd (E : Env) (k0 : Nat) (c : Code) (tm : Tm) (S : Store) (nx : Nat) (Q : Ex → Tm → Store → Nat → Prop) : Prop where
  | mk (h : awp E k0 c tm S nx Q)
  | never (h : False)

section
variable {E : Env} {ops : Array Oper} {tm : Tm} {S : Store} {nx : Nat} {fs : List Fp} {K : List Fp → Tm → Store → Nat → Prop}
theorem Ops.eq {l : List Oper} : Ops E ops l tm S nx fs K = awpOps E ops l tm S nx fs K :=
  propext ⟨fun h => by cases h with
    | mk h => exact h
    | never h => exact h.elim, .mk⟩
theorem Ops.nil (h : K fs tm S nx) : Ops E ops [] tm S nx fs K := .mk h
theorem Ops.none {o : Oper} {r : List Oper} (hg : o.guard = none) (h : awpOp E o tm S nx fun fp tm S nx => Ops E ops r tm S nx (fp :: fs) K) : Ops E ops (o :: r) tm S nx fs K := by
  simp only [Ops.eq] at h ⊢
  unfold awpOps
  rw [hg]
  exact h
theorem Ops.guard {o : Oper} {r : List Oper} {j : Nat} {want : Bool} {t : Nat} {x : Bool} (hg : o.guard = some (j, want)) (ht : (ops[j]?).bind (·.dst) = some t) (hx : lk tm t = some (.b x))
    (h : bsplit x fun y => match (generalizing := false) want, y with
      | true, true => awpOp E o ((t, .b true) :: tm) S nx fun fp tm S nx => Ops E ops r tm S nx (fp :: fs) K
      | false, false => awpOp E o ((t, .b false) :: tm) S nx fun fp tm S nx => Ops E ops r tm S nx (fp :: fs) K
      | _, y => Ops E ops r (put o.dst (.tup []) ((t, .b y) :: tm)) S nx (fp0 :: fs) K) : Ops E ops (o :: r) tm S nx fs K := by
  simp only [Ops.eq] at h ⊢
  unfold awpOps
  rw [hg]
  simp only [ht, hx]
  exact h
theorem Ops.off {o : Oper} {r : List Oper} {j : Nat} {want : Bool} {t : Nat} (hg : o.guard = some (j, want)) (ht : (ops[j]?).bind (·.dst) = some t) (hx : lk tm t = some (.tup []))
    (h : Ops E ops r (put o.dst (.tup []) tm) S nx (fp0 :: fs) K) : Ops E ops (o :: r) tm S nx fs K := by
  simp only [Ops.eq] at h ⊢
  unfold awpOps
  rw [hg]
  simp only [ht, hx]
  exact h
end

section
variable {E : Env} {k0 : Nat} {tm : Tm} {S : Store} {nx : Nat} {Q : Ex → Tm → Store → Nat → Prop}
theorem Cd.eq {c : Code} {tm : Tm} {S : Store} {nx : Nat} {Q : Ex → Tm → Store → Nat → Prop} : Cd E k0 c tm S nx Q = awp E k0 c tm S nx Q :=
  propext ⟨fun h => by cases h with
    | mk h => exact h
    | never h => exact h.elim, .mk⟩
theorem Cd.seq {a b : Code} (h : Cd E k0 a tm S nx fun e tm S nx => match e with
    | .normal => Cd E k0 b tm S nx Q
    | e => Q e tm S nx) : Cd E k0 (.seq a b) tm S nx Q := by
  simp only [Cd.eq] at h ⊢
  exact h
theorem Cd.skip (h : Q .normal tm S nx) : Cd E k0 .skip tm S nx Q := .mk h
theorem Cd.region {id : Nat} {ops : Array Oper} (h : Ops E ops ops.toList tm S nx [] fun _ tm S nx => Q .normal tm S nx) : Cd E k0 (.region id ops false) tm S nx Q := by
  rw [Ops.eq] at h
  exact .mk h
theorem Cd.drawn {id : Nat} {ops : Array Oper} (h : Ops E ops ops.toList tm S nx [] fun fs tm S nx => drawB ops fs.reverse = true ∧ Q .normal tm S nx) : Cd E k0 (.region id ops true) tm S nx Q := by
  rw [Ops.eq] at h
  exact .mk h
theorem Cd.cond {t : Nat} {a b : Code} {x : Bool} (hx : lk tm t = some (.b x)) (h : bsplit x fun y => match y with
    | true => Cd E k0 a ((t, .b true) :: tm) S nx Q
    | false => Cd E k0 b ((t, .b false) :: tm) S nx Q) : Cd E k0 (.cond (.tmp t) a b) tm S nx Q := by
  simp only [Cd.eq] at h ⊢
  unfold awp
  simp only [hx]
  exact h
theorem Cd.condT {a b : Code} (h : Cd E k0 a tm S nx Q) : Cd E k0 (.cond (.const (.bool true)) a b) tm S nx Q := by
  simp only [Cd.eq] at h ⊢
  exact h
theorem Cd.condF {a b : Code} (h : Cd E k0 b tm S nx Q) : Cd E k0 (.cond (.const (.bool false)) a b) tm S nx Q := by
  simp only [Cd.eq] at h ⊢
  exact h
theorem Cd.block {id : Nat} {b : Code} (h : Cd E k0 b tm S nx fun e tm S nx => match e with
    | .exit i => match Nat.beq i id with
      | true => Q .normal tm S nx
      | false => Q (.exit i) tm S nx
    | e => Q e tm S nx) : Cd E k0 (.block id b) tm S nx Q := by
  simp only [Cd.eq] at h ⊢
  exact h
theorem Cd.exit {id : Nat} (h : Q (.exit id) tm S nx) : Cd E k0 (.exit id) tm S nx Q := .mk h
theorem Cd.ret (h : Q .ret tm S nx) : Cd E k0 .ret tm S nx Q := .mk h
theorem Cd.loop {b : Code} (I : Nat → Tm → Store → Nat → Prop) (h0 : ∃ m, landK k0 tm S nx (I m)) (h : ∀ m tm S nx, I m tm S nx → Cd E k0 b tm S nx fun e tm S nx' => match e with
    | .normal => RoundEnd m fun m' => landK k0 tm S nx' (I m')
    | e => Q e tm S nx') : Cd E k0 (.loop b) tm S nx Q := by
  have hR : ∀ (m : Nat) (L : Nat → Prop), RoundEnd m L = ∃ m', m' < m ∧ L m' := fun m L => propext ⟨RoundEnd.out, .here⟩
  simp only [Cd.eq, hR] at h ⊢
  exact ⟨I, h0, h⟩
theorem con_of_cd (hty : TyOk E) (hmix : E.P.follows .mixedOrders = true) {f : FuncId} {fn : Func} {c : Code} (hf : E.P.funcs[f]? = some fn) (hb : fn.body = some c) (hname : (fn.name == "runtime.NumGoroutine") = false) (hok : codeOk fn.ntmps c = true)
    {k : Nat} {cds : List D} {Sa : Store} {d : D} {S' : Store} (hle : cds.length ≤ fn.ntmps) (h : Cd E k c (parTm 0 cds) Sa k (finQ E k fn.results.toList d S')) : Con E f k cds Sa d S' :=
  con_of_awp hty hmix hf hb hname hok hle (Cd.eq ▸ h)
theorem any_of_cd (hty : TyOk E) (hmix : E.P.follows .mixedOrders = true) {f : FuncId} {fn : Func} {c : Code} (hf : E.P.funcs[f]? = some fn) (hb : fn.body = some c) (hname : (fn.name == "runtime.NumGoroutine") = false) (hok : codeOk fn.ntmps c = true)
    {k : Nat} {cds : List D} {Sa : Store} {G : D → Store → Prop} (hle : cds.length ≤ fn.ntmps) (h : Cd E k c (parTm 0 cds) Sa k (anyQ E k fn.results.toList G)) : ∃ d S', G d S' ∧ Con E f k cds Sa d S' :=
  con_any hty hmix hf hb hname hok hle (Cd.eq ▸ h)
end
end Go.Ab
