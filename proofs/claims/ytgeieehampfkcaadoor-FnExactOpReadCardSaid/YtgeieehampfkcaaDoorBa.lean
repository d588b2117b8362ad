/- An abstract reading of the elaborated code: slices as lists, blocks of the call's own by name. Part 1: the words. -/
import Derived.Below
import Derived.IntWalk
import Derived.WalkKit
import Derived.WalkLawsBesides
import Derived.Laws.MakeOwn
import Derived.Laws.StructEq
namespace Go.Ab
open Go Go.RowKit

/-- abstract values -/
inductive D where
  | b (x : Bool)
  | k (kd : IntKind) (n : Int)
  | s (l : List UInt8)
  | v (x : Value)
  | nil
  | sl (xs : List (List D))
  | ep (cs : List D)
  | own (t : Nat)
  | bp (t off : Nat)
  | op (t sz i off : Nat)
  | fn (f : FuncId) (caps : List Nat)
  | agg (ds : List D)
  | tup (ds : List D)
  | junk
  deriving Inhabited

/-- blocks by name: a box of cells; a slice of the call's own; one whose elements name others; a slice that is written no more -/
inductive Blk where
  | box (e : TypeId) (cs : List D)
  | own (e : TypeId) (xs : List (List D))
  | row (e : TypeId) (xs : List (List D))
  | fr (xs : List (List D))
  deriving Inhabited

abbrev Tm := List (Nat × D)
abbrev Store := List (Nat × Blk)

def lk {α : Type} : List (Nat × α) → Nat → Option α
  | [], _ => none
  | (n, a) :: r, m => match Nat.beq n m with
    | true => some a
    | false => lk r m

def del {α : Type} (m : Nat) : List (Nat × α) → List (Nat × α)
  | [] => []
  | (n, a) :: r => match Nat.beq n m with
    | true => del m r
    | false => (n, a) :: del m r

/-- what a step does to the blocks -/
abbrev Out := List (Nat × Option Blk)
def ap : Out → Store → Store
  | [], S => S
  | (n, o) :: r, S => match o with
    | some b => (n, b) :: del n (ap r S)
    | none => del n (ap r S)

/-- what is known of a type -/
inductive TK where
  | str | int (k : IntKind) | bool | slice (e : TypeId) | struct (places : List (Nat × Nat)) | parr (n : Nat) (e : TypeId) | other
structure TD where
  kind : TK
  size : Nat
  bytes : Nat
  zero : D
  eqv : Option (List Nat) := none

def isAggK : TK → Bool
  | .struct _ => true
  | .parr _ _ => true
  | _ => false

def ofV : Value → Option D
  | .bool x => some (.b x)
  | .int kd n => some (.k kd n)
  | .string s => some (.s s.data.toList)
  | .slice none 0 0 => some .nil
  | _ => none

/-- what the run is over -/
structure Env where
  P : Program
  ty : TypeId → Option TD
  gl : Nat → Option (List D)

def ev (gl : Nat → Option (List D)) (tm : Tm) : Operand → Option D
  | .tmp t => lk tm t
  | .const v => ofV v
  | .func f => some (.fn f [])
  | .global g => match gl g with
    | some cs => some (.ep cs)
    | none => none

def cellsOf : D → List D
  | .agg ds => ds
  | d => [d]

def memB (n : Nat) : List Nat → Bool
  | [] => false
  | m :: r => Nat.beq m n || memB n r

/-- the names in a value -/
def nmA : D → List Nat
  | .own t => [t]
  | .bp t _ => [t]
  | .op t _ _ _ => [t]
  | .fn _ cs => cs
  | _ => []
def nmAs : List D → List Nat
  | [] => []
  | d :: r => nmA d ++ nmAs r
def nmD : D → List Nat
  | .agg ds => nmAs ds
  | .tup ds => nmAs ds
  | d => nmA d
def nmDs : List D → List Nat
  | [] => []
  | d :: r => nmD d ++ nmDs r

/-- what is lent: as a value that is only read -/
def immA (S : Store) : D → Option D
  | .own t => match lk S t with
    | some (.own _ xs) => some (.sl xs)
    | some (.fr xs) => some (.sl xs)
    | _ => none
  | .nil => some (.sl [])
  | .bp _ _ => none
  | .op _ _ _ _ => none
  | .fn f cs => match cs with
    | [] => some (.fn f [])
    | _ => none
  | .junk => none
  | .agg _ => none
  | .tup _ => none
  | d => some d
def immAs (S : Store) : List D → Option (List D)
  | [] => some []
  | d :: r => match immA S d with
    | some d' => match immAs S r with
      | some r' => some (d' :: r')
      | none => none
    | none => none
def immD (S : Store) : D → Option D
  | .agg ds => match immAs S ds with
    | some ds' => some (.agg ds')
    | none => none
  | d => immA S d

/-- written no more -/
def frz1 (t : Nat) : Store → Store
  | [] => []
  | (n, b) :: r => match Nat.beq n t with
    | true => match b with
      | .own _ xs => (n, .fr xs) :: frz1 t r
      | b => (n, b) :: frz1 t r
    | false => (n, b) :: frz1 t r
def frz : List Nat → Store → Store
  | [], S => S
  | t :: r, S => frz r (frz1 t S)

/-- a change of names -/
def nmOf (ns : List Nat) (nx : Nat) (i : Nat) : Nat :=
  match ns[i]? with
  | some n => n
  | none => nx + (i - ns.length)
def renA (f : Nat → Nat) : D → D
  | .own t => .own (f t)
  | .bp t o => .bp (f t) o
  | .op t z i o => .op (f t) z i o
  | .fn g cs => .fn g (cs.map f)
  | d => d
def renG (f : Nat → Nat) : D → D
  | .agg es => .agg (es.map (renA f))
  | d => renA f d
def renD (f : Nat → Nat) : D → D
  | .tup ds => .tup (ds.map (renG f))
  | d => renG f d
def renB (f : Nat → Nat) : Blk → Blk
  | .box e cs => .box e (cs.map (renA f))
  | .row e xs => .row e (xs.map fun cs => cs.map (renA f))
  | b => b

/-- no part of it lies in memory that is only read -/
def NoImmA : D → Prop
  | .sl _ => False
  | .ep _ => False
  | .agg _ => False
  | .tup _ => False
  | .junk => False
  | _ => True
def NoImmG : D → Prop
  | .agg ds => ∀ d ∈ ds, NoImmA d
  | d => NoImmA d
def NoImmD : D → Prop
  | .tup ds => ∀ d ∈ ds, NoImmG d
  | d => NoImmG d
def NoImmB : Blk → Prop
  | .box _ cs => ∀ d ∈ cs, NoImmA d
  | .own _ xs => ∀ cs ∈ xs, ∀ d ∈ cs, NoImmA d
  | .row _ xs => ∀ cs ∈ xs, ∀ d ∈ cs, NoImmA d
  | .fr _ => False
def NoImmS (S : Store) : Prop := ∀ p ∈ S, NoImmB p.2

section rel
variable (w : World) (Av : Nat → Prop)
inductive VI : D → Value → Prop
  | b (x : Bool) : VI (.b x) (.bool x)
  | k (kd : IntKind) (n : Int) : VI (.k kd n) (.int kd n)
  | s (l : List UInt8) : VI (.s l) (.string ⟨l.toArray⟩)
  | v {x : Value} (h : x.oneCell' = true) : VI (.v x) x
  | fn (f : FuncId) : VI (.fn f []) (.func (.func f) #[] #[])
  | nil : VI .nil (.slice none 0 0)
  | sl0 : VI (.sl []) (.slice none 0 0)
  | sl {xs : List (List D)} {ad : Addr} {n c sz : Nat} (U : Nat → Nat → Value) (hn : xs.length = n) (hnc : n ≤ c) (hc : c ≤ maxLen) (hb : xs ≠ [] → ad.block < w.heap.size)
      (hav : xs ≠ [] → ¬ Av ad.block) (hsz : ∀ cs ∈ xs, cs.length = sz) (hcell : ∀ (i j : Nat) (cs : List D) (d : D), xs[i]? = some cs → cs[j]? = some d → w.cell? (ad.add (i * sz + j)) = some (U i j))
      (h1 : ∀ (i j : Nat) (cs : List D) (d : D), xs[i]? = some cs → cs[j]? = some d → (U i j).oneCell' = true)
      (hrec : ∀ (i j : Nat) (cs : List D) (d : D), xs[i]? = some cs → cs[j]? = some d → VI d (U i j)) : VI (.sl xs) (.slice (some ad) n c)
  | ep {cs : List D} {ad : Addr} (U : Nat → Value) (hb : ad.block < w.heap.size) (hav : ¬ Av ad.block) (hcell : ∀ (j : Nat) (d : D), cs[j]? = some d → w.cell? (ad.add j) = some (U j))
      (h1 : ∀ (j : Nat) (d : D), cs[j]? = some d → (U j).oneCell' = true)
      (hrec : ∀ (j : Nat) (d : D), cs[j]? = some d → VI d (U j)) : VI (.ep cs) (.pointer (some ad))
  | agg {ds : List D} {us : List Value} (hl : ds.length = us.length) (h1 : ∀ u ∈ us, u.oneCell' = true) (hrec : ∀ (i : Nat) (d : D) (u : Value), ds[i]? = some d → us[i]? = some u → VI d u) : VI (.agg ds) (.agg us.toArray)

variable (ρ : Nat → Option Value)
/-- an atom of the call's own state -/
inductive VA : D → Value → Prop
  | im {d : D} {u : Value} (h : VI w Av d u) : VA d u
  | own {t : Nat} {u : Value} (h : ρ t = some u) (h1 : u.oneCell' = true) : VA (.own t) u
  | bp {t off b : Nat} (h : ρ t = some (.pointer (some ⟨b, 0, none⟩))) : VA (.bp t off) (.pointer (some ⟨b, off, none⟩))
  | op {t i off g n c sz : Nat} (h : ρ t = some (.slice (some ⟨g, 0, none⟩) n c)) : VA (.op t sz i off) (.pointer (some ⟨g, i * sz + off, none⟩))
  | fn {f : FuncId} {cs : List Nat} {us : List Value} (hl : cs.length = us.length) (h : ∀ (i n : Nat) (u : Value), cs[i]? = some n → us[i]? = some u → ρ n = some u ∧ ∃ b, u = .pointer (some ⟨b, 0, none⟩)) : VA (.fn f cs) (.func (.func f) #[] us.toArray)
  | junk {u : Value} (h1 : u.oneCell' = true) : VA .junk u
inductive VG : D → Value → Prop
  | atom {d : D} {u : Value} (h : VA w Av ρ d u) : VG d u
  | agg {ds : List D} {us : List Value} (hl : ds.length = us.length) (h1 : ∀ u ∈ us, u.oneCell' = true) (h : ∀ (i : Nat) (d : D) (u : Value), ds[i]? = some d → us[i]? = some u → VA w Av ρ d u) : VG (.agg ds) (.agg us.toArray)
inductive VR : D → Value → Prop
  | gr {d : D} {u : Value} (h : VG w Av ρ d u) : VR d u
  | tup {ds : List D} {us : List Value} (hl : ds.length = us.length) (h : ∀ (i : Nat) (d : D) (u : Value), ds[i]? = some d → us[i]? = some u → VG w Av ρ d u) : VR (.tup ds) (.tuple us.toArray)
end rel

def blkOf : Value → Option Nat
  | .pointer (some a) => some a.block
  | .slice (some a) _ _ => some a.block
  | _ => none
def live : Blk → Bool
  | .fr _ => false
  | _ => true

/-- the blocks that the call holds -/
def Held (S : Store) (ρ : Nat → Option Value) (x : Nat) : Prop := ∃ t b, lk S t = some b ∧ live b = true ∧ (ρ t).bind blkOf = some x
def AvS (G : Nat → Prop) (S : Store) (ρ : Nat → Option Value) (x : Nat) : Prop := G x ∨ Held S ρ x

/-- the elements of a slice of the call's own -/
structure Rows (p : D → Value → Prop) (sz : Nat) (xs : List (List D)) (us : List Value) : Prop where
  len : us.length = xs.length * sz
  el : ∀ cs ∈ xs, cs.length = sz
  one : ∀ u ∈ us, u.oneCell' = true
  at_ : ∀ (i j : Nat) (cs : List D) (d : D), xs[i]? = some cs → cs[j]? = some d → ∃ u, us[i * sz + j]? = some u ∧ p d u

def SR (P : Program) (w : World) (Av : Nat → Prop) (ρ : Nat → Option Value) (t : Nat) : Blk → Prop
  | .box e cs => ∃ (b : Nat) (us : List Value), ρ t = some (.pointer (some ⟨b, 0, none⟩)) ∧ w.heap[b]? = some (.cells us.toArray e (0, 0)) ∧ cs.length = us.length ∧
      (∀ u ∈ us, u.oneCell' = true) ∧ ∀ (i : Nat) (d : D) (u : Value), cs[i]? = some d → us[i]? = some u → VA w Av ρ d u
  | .own e xs => ∃ (u : Value) (us : List Value), ρ t = some u ∧ w.ownsRow 0 e (P.cellsOf e) u xs.length us ∧ Rows (VI w Av) (P.cellsOf e) xs us
  | .row e xs => ∃ (u : Value) (us : List Value), ρ t = some u ∧ w.ownsRow 0 e (P.cellsOf e) u xs.length us ∧ Rows (VA w Av ρ) (P.cellsOf e) xs us
  | .fr xs => ∃ u, ρ t = some u ∧ VI w Av (.sl xs) u

def Dis (S : Store) (ρ : Nat → Option Value) : Prop :=
  ∀ t t' b b' x, lk S t = some b → lk S t' = some b' → live b = true → live b' = true → (ρ t).bind blkOf = some x → (ρ t').bind blkOf = some x → t = t'

/-- outside the blocks F nothing that was there has turned -/
structure Fr (F : Nat → Prop) (w w' : World) : Prop where
  os : w'.os = w.os
  tape : w'.tape = w.tape
  output : w'.output = w.output
  size : w.heap.size ≤ w'.heap.size
  block : ∀ k, k < w.heap.size → ¬ F k → w'.heap[k]? = w.heap[k]?

/-- how the call began -/
structure Cx where
  N : Nat
  w0 : World
  ρ0 : Nat → Option Value
  k0 : Nat
  F : Nat → Prop
  G : Nat → Prop

/-- where a call stands -/
structure R (E : Env) (cx : Cx) (tm : Tm) (S : Store) (a : Act) (w : World) (ρ : Nat → Option Value) : Prop where
  tm : ∀ t d, lk tm t = some d → VR w (AvS cx.G S ρ) ρ d (a.tmps.getD t undef)
  st : ∀ t b, lk S t = some b → SR E.P w (AvS cx.G S ρ) ρ t b
  dis : Dis S ρ
  new : ∀ x, Held S ρ x → cx.w0.heap.size ≤ x ∨ cx.F x
  keep : ∀ t u, t < cx.k0 → cx.ρ0 t = some u → ρ t = some u
  gl : ∀ g cs, E.gl g = some cs → VI w (AvS cx.G S ρ) (.ep cs) (.pointer (some ⟨g, 0, none⟩))
  fr : Fr cx.F cx.w0 w
  g : ∀ x, cx.G x → x < cx.w0.heap.size
  gf : ∀ x, cx.G x → ¬ cx.F x
  defers : a.defers = []
  num : a.tmps.size = cx.N

/-- the contract of a function: arguments, what they name (0 .. k-1), the result, what it names -/
def Callable (P : Program) (f : FuncId) : Prop := ∃ fn, P.funcs[f]? = some fn ∧ fn.body.isNone = false ∧ (fn.name == "runtime.NumGoroutine") = false
def Con (E : Env) (f : FuncId) (k : Nat) (cds : List D) (Sa : Store) (d : D) (S' : Store) : Prop := Callable E.P f ∧
  ∀ (w : World) (vs : List Value) (ρ : Nat → Option Value) (G : Nat → Prop), cds.length = vs.length → (∀ x, G x → x < w.heap.size) → (∀ x, G x → ¬ Held Sa ρ x) →
    (∀ (i : Nat) (d : D) (u : Value), cds[i]? = some d → vs[i]? = some u → VG w (AvS G Sa ρ) ρ d u) → (∀ t b, lk Sa t = some b → SR E.P w (AvS G Sa ρ) ρ t b) → Dis Sa ρ → (∀ t, k ≤ t → ρ t = none) →
    (∀ g cs, E.gl g = some cs → VI w (AvS G Sa ρ) (.ep cs) (.pointer (some ⟨g, 0, none⟩))) →
    Calls E.P f vs.toArray w fun e w' => ∃ v ρ', e = .returned v ∧ VR w' (AvS G S' ρ') ρ' d v ∧ (∀ t b, lk S' t = some b → SR E.P w' (AvS G S' ρ') ρ' t b) ∧ Dis S' ρ' ∧
      (∀ x, Held S' ρ' x → w.heap.size ≤ x ∨ Held Sa ρ x) ∧ (∀ t u, t < k → ρ t = some u → ρ' t = some u) ∧ Fr (Held Sa ρ) w w'

/-! the symbolic run -/
/-- the names that a step looks at, and those that it turns or makes -/
structure Fp where
  all : List Nat
  wr : List Nat
abbrev Kt := Fp → Tm → Store → Nat → Prop
def isTup : D → Bool
  | .tup _ => true
  | _ => false
def evK (gl : Nat → Option (List D)) (tm : Tm) (x : Operand) (K : D → Prop) : Prop :=
  match ev gl tm x with
  | some d => K d
  | none => False
def evsK (gl : Nat → Option (List D)) (tm : Tm) : List Operand → (List D → Prop) → Prop
  | [], K => K []
  | x :: r, K => match ev gl tm x with
    | some d => evsK gl tm r fun ds => K (d :: ds)
    | none => False
structure bsplit (x : Bool) (K : Bool → Prop) : Prop where
  t : x = true → K true
  f : x = false → K false
def put (d : Option Nat) (x : D) (tm : Tm) : Tm :=
  match d with
  | some t => (t, x) :: tm
  | none => tm

def fillX {α : Type} : List α → Nat → List α → List α
  | cs, _, [] => cs
  | cs, o, d :: r => fillX (cs.set o d) (o + 1) r
def fillParts (gl : Nat → Option (List D)) (tm : Tm) (places : List (Nat × Nat)) : List (Nat × Operand) → List D → (List D → Prop) → Prop
  | [], cs, K => K cs
  | (i, x) :: r, cs, K => match places[i]? with
    | some (o, z) => evK gl tm x fun d => match Nat.beq (cellsOf d).length z && Nat.ble (o + z) cs.length && !isTup d with
      | true => fillParts gl tm places r (fillX cs o (cellsOf d)) K
      | false => False
    | none => False
def sliceParts (gl : Nat → Option (List D)) (tm : Tm) (S : Store) (z : Nat) : List (Nat × Operand) → List (List D) → (List (List D) → Prop) → Prop
  | [], xs, K => K xs
  | (i, x) :: r, xs, K => evK gl tm x fun d => match immD S d with
    | some d' => match Nat.beq (cellsOf d').length z && Nat.blt i xs.length with
      | true => sliceParts gl tm S z r (xs.set i (cellsOf d')) K
      | false => False
    | none => False
def partNames (gl : Nat → Option (List D)) (tm : Tm) : List (Nat × Operand) → List Nat
  | [] => []
  | (_, x) :: r => match ev gl tm x with
    | some d => nmD d ++ partNames gl tm r
    | none => partNames gl tm r
def loadK (td : TD) (cs : List D) (K : D → Prop) : Prop :=
  match isAggK td.kind with
  | true => match Nat.ble td.size cs.length with
    | true => K (.agg (cs.take td.size))
    | false => False
  | false => match cs with
    | d :: _ => K d
    | [] => False

def intOp (op : BinOp) (kd : IntKind) (m n : Int) (K : D → Prop) : Prop :=
  match op with
  | .add => ∃ r, kd.wrap (m + n) = r ∧ K (.k kd r)
  | .sub => ∃ r, kd.wrap (m - n) = r ∧ K (.k kd r)
  | .mul => ∃ r, kd.wrap (m * n) = r ∧ K (.k kd r)
  | .quo => n ≠ 0 ∧ ∃ r, kd.wrap (m.tdiv n) = r ∧ K (.k kd r)
  | .rem => n ≠ 0 ∧ ∃ r, m.tmod n = r ∧ K (.k kd r)
  | .eql => K (.b (decide (m = n)))
  | .neq => K (.b (!decide (m = n)))
  | .lss => K (.b (decide (m < n)))
  | .leq => K (.b (decide (m ≤ n)))
  | .gtr => K (.b (decide (m > n)))
  | .geq => K (.b (decide (m ≥ n)))
  | .xor => ∃ r, (Op.intBits .xor kd m n = Sem.pure (.int kd r)) ∧ K (.k kd r)
  | .and => ∃ r, (Op.intBits .and kd m n = Sem.pure (.int kd r)) ∧ K (.k kd r)
  | _ => False
def strOp (op : BinOp) (a b : List UInt8) (K : D → Prop) : Prop :=
  match op with
  | .add => a.length + b.length ≤ 9223372036854775807 ∧ K (.s (a ++ b))
  | .eql => K (.b (decide (a = b)))
  | .neq => K (.b (!decide (a = b)))
  | .lss => K (.b (Op.bytesLess a b))
  | .leq => K (.b (Op.bytesLess a b || decide (a = b)))
  | .gtr => K (.b (!(Op.bytesLess a b || decide (a = b))))
  | .geq => K (.b (!Op.bytesLess a b))
  | _ => False
def isK (a b : IntKind) : Bool := decide (a = b)
/-- structs of plain parts are one (0 bool, 1 int, 2 string) -/
def eqA (c : Nat) (d e : D) : Option Bool :=
  match c, d, e with
  | 0, .b x, .b y => some (x == y)
  | 1, .k a m, .k b n => match isK a b with
    | true => some (decide (m = n))
    | false => none
  | 2, .s x, .s y => some (decide (x = y))
  | _, _, _ => none
def eqAs : List Nat → List D → List D → Option Bool
  | [], [], [] => some true
  | c :: q, x :: r, y :: p => match eqA c x y with
    | some e => match eqAs q r p with
      | some e' => some (e && e')
      | none => none
    | none => none
  | _, _, _ => none
def binOpK (op : BinOp) (dx dy : D) (K : D → Prop) : Prop :=
  match dx, dy with
  | .k kd m, .k kd' n => match isK kd kd' with
    | true => intOp op kd m n K
    | false => False
  | .s a, .s b => strOp op a b K
  | _, _ => False
def boolOpK (op : BinOp) (x y : Bool) (K : D → Prop) : Prop :=
  match op with
  | .eql => K (.b (x == y))
  | .neq => K (.b (!(x == y)))
  | _ => False
/-- '==' between two structs, at their type -/
def aggOpK (op : BinOp) (c : List Nat) (ds es : List D) (K : D → Prop) : Prop :=
  match eqAs c ds es with
  | some x => match op with
    | .eql => K (.b x)
    | .neq => K (.b (!x))
    | _ => False
  | none => False

section
variable (E : Env)

def tyK (t : TypeId) (K : TD → Prop) : Prop :=
  match E.ty t with
  | some td => K td
  | none => False
def szK (e : TypeId) (sz : Nat) (K : Prop) : Prop :=
  match E.ty e with
  | some te => match Nat.beq te.size sz with
    | true => K
    | false => False
  | none => False
def addrK (S : Store) (d : D) (td : TD) (K : D → Prop) : Prop :=
  match d with
  | .bp n off => match lk S n with
    | some (.box _ cs) => loadK td (cs.drop off) K
    | _ => False
  | .ep cs => loadK td cs K
  | .op n sz i off => match lk S n with
    | some (.own e xs) => szK E e sz (∃ cs, xs[i]? = some cs ∧ loadK td (cs.drop off) K)
    | some (.row e xs) => szK E e sz (∃ cs, xs[i]? = some cs ∧ loadK td (cs.drop off) K)
    | _ => False
  | _ => False

def indexK (S : Store) (d : D) (e : TypeId) (z : Nat) (i : Int) (K : D → Prop) : Prop :=
  match d with
  | .sl xs => ∃ (j : Nat) (cs : List D), i = (j : Int) ∧ xs[j]? = some cs ∧ cs.length = z ∧ K (.ep cs)
  | .own t => match lk S t with
    | some (.own e' xs) => match Nat.beq e e' with
      | true => ∃ (j : Nat), i = (j : Int) ∧ j < xs.length ∧ K (.op t z j 0)
      | false => False
    | some (.row e' xs) => match Nat.beq e e' with
      | true => ∃ (j : Nat), i = (j : Int) ∧ j < xs.length ∧ K (.op t z j 0)
      | false => False
    | some (.fr xs) => ∃ (j : Nat) (cs : List D), i = (j : Int) ∧ xs[j]? = some cs ∧ cs.length = z ∧ K (.ep cs)
    | _ => False
  | _ => False

def boundK (gl : Nat → Option (List D)) (tm : Tm) (x : Option Operand) (dflt : Nat) (K : Nat → Prop) : Prop :=
  match x with
  | none => K dflt
  | some y => match ev gl tm y with
    | some (.k _ n) => ∃ j : Nat, n = (j : Int) ∧ K j
    | _ => False
def cutK (gl : Nat → Option (List D)) (tm : Tm) (lo hi : Option Operand) (n : Nat) (K : Nat → Nat → Prop) : Prop :=
  boundK gl tm lo 0 fun i => boundK gl tm hi n fun j => i ≤ j ∧ j ≤ n ∧ K i j
def sliceK (gl : Nat → Option (List D)) (kd : TK) (S : Store) (d : D) (tm : Tm) (lo hi : Option Operand) (K : D → List Nat → Store → Prop) : Prop :=
  match kd with
  | .str => match d with
    | .s l => cutK gl tm lo hi l.length fun i j => K (.s ((l.take j).drop i)) [] S
    | _ => False
  | .slice e => tyK E e fun te => match d with
    | .sl xs => (∀ cs ∈ xs, cs.length = te.size) ∧ cutK gl tm lo hi xs.length fun i j => K (.sl ((xs.take j).drop i)) [] S
    | .nil => cutK gl tm lo hi 0 fun _ _ => K .nil [] S
    | .own t => match immA S (.own t) with
      | some (.sl xs) => (∀ cs ∈ xs, cs.length = te.size) ∧ cutK gl tm lo hi xs.length fun i j => K (.sl ((xs.take j).drop i)) [t] (frz1 t S)
      | _ => False
    | _ => False
  | _ => False

def lenK (kd : TK) (S : Store) (d : D) (K : Int → Prop) : Prop :=
  match kd with
  | .str => match d with
    | .s l => K (l.length : Int)
    | _ => False
  | .slice _ => match d with
    | .sl xs => K (xs.length : Int)
    | .nil => K 0
    | .own t => match lk S t with
      | some (.own _ xs) => K (xs.length : Int)
      | some (.row _ xs) => K (xs.length : Int)
      | some (.fr xs) => K (xs.length : Int)
      | _ => False
    | _ => False
  | _ => False

/-- a call: the names handed over (ns), the others lent -/
def posOf (ns : List Nat) (n : Nat) : Option Nat :=
  match ns with
  | [] => none
  | m :: r => match Nat.beq m n with
    | true => some 0
    | false => match posOf r n with
      | some i => some (i + 1)
      | none => none
def posAll (ns : List Nat) : List Nat → Option (List Nat)
  | [] => some []
  | n :: r => match posOf ns n with
    | some i => match posAll ns r with
      | some q => some (i :: q)
      | none => none
    | none => none
def argA (ns : List Nat) (S : Store) : D → Option D
  | .own t => match posOf ns t with
    | some i => some (.own i)
    | none => immA S (.own t)
  | .bp t o => match posOf ns t with
    | some i => some (.bp i o)
    | none => none
  | .fn f cs => match posAll ns cs with
    | some qs => some (.fn f qs)
    | none => none
  | d => immA S d
def argAs (ns : List Nat) (S : Store) : List D → Option (List D)
  | [] => some []
  | d :: r => match argA ns S d with
    | some d' => match argAs ns S r with
      | some r' => some (d' :: r')
      | none => none
    | none => none
def argD (ns : List Nat) (S : Store) : D → Option D
  | .agg ds => match argAs ns S ds with
    | some ds' => some (.agg ds')
    | none => none
  | d => argA ns S d
def argDs (ns : List Nat) (S : Store) : List D → Option (List D)
  | [] => some []
  | d :: r => match argD ns S d with
    | some d' => match argDs ns S r with
      | some r' => some (d' :: r')
      | none => none
    | none => none
def argRows (ns : List Nat) (S : Store) : List (List D) → Option (List (List D))
  | [] => some []
  | d :: r => match argAs ns S d with
    | some d' => match argRows ns S r with
      | some r' => some (d' :: r')
      | none => none
    | none => none
def argB (ns : List Nat) (S : Store) : Blk → Option Blk
  | .box e cs => match argAs ns S cs with
    | some cs' => some (.box e cs')
    | none => none
  | .own e xs => some (.own e xs)
  | .row e xs => match argRows ns S xs with
    | some xs' => some (.row e xs')
    | none => none
  | .fr _ => none
def argS (ns : List Nat) (S : Store) : List Nat → Nat → Option Store
  | [], _ => some []
  | n :: r, i => match lk S n with
    | some b => match argB ns S b with
      | some b' => match argS ns S r (i + 1) with
        | some q => some ((i, b') :: q)
        | none => none
      | none => none
    | none => none
def rowNames : List (List D) → List Nat
  | [] => []
  | d :: r => nmAs d ++ rowNames r
def blkNames : Blk → List Nat
  | .box _ cs => nmAs cs
  | .row _ xs => rowNames xs
  | _ => []
def storeNames (S : Store) : List Nat → List Nat
  | [] => []
  | n :: r => match lk S n with
    | some b => blkNames b ++ storeNames S r
    | none => storeNames S r
def minus (ns : List Nat) : List Nat → List Nat
  | [] => []
  | n :: r => match memB n ns with
    | true => minus ns r
    | false => n :: minus ns r
def keysB (k : Nat) : Store → Bool
  | [] => true
  | (i, _) :: r => Nat.blt i k && keysB k r
def ltB (k : Nat) : List Nat → Bool
  | [] => true
  | n :: r => Nat.blt n k && ltB k r
def nmR : D → List Nat
  | .tup ds => nmDs ds
  | d => nmD d
def domB (k : Nat) : Store → Bool
  | [] => true
  | (_, b) :: r => ltB k (blkNames b) && domB k r
def nodupB : List Nat → Bool
  | [] => true
  | n :: r => !memB n r && nodupB r
def news (nx : Nat) : Nat → List Nat
  | 0 => []
  | c + 1 => nx :: news (nx + 1) c
def callOut (f : Nat → Nat) (S' : Store) : List Nat → Nat → Out
  | [], _ => []
  | n :: r, i => (n, match lk S' i with | some b => some (renB f b) | none => none) :: callOut f S' r (i + 1)
/-- what is lent in a call -/
def lent (ns : List Nat) (ds : List D) (S : Store) : List Nat := minus ns (nmDs ds ++ storeNames S ns)
structure CallOf (f : FuncId) (ds : List D) (S : Store) (nx : Nat) (ns : List Nat) (cds : List D) (Sa : Store) (d : D) (S' : Store) (c : Nat) : Prop where
  nd : nodupB ns = true
  ar : argDs ns S ds = some cds
  st : argS ns S ns 0 = some Sa
  con : Con E f ns.length cds Sa d S'
  keys : keysB (ns.length + c) S' = true
  dom : (ltB (ns.length + c) (nmR d) && domB (ns.length + c) S') = true
def callK (f : FuncId) (ds : List D) (S : Store) (nx : Nat) (K : D → Fp → Store → Nat → Prop) : Prop :=
  ∃ (ns : List Nat) (cds : List D) (Sa : Store) (d : D) (S' : Store) (c : Nat), CallOf E f ds S nx ns cds Sa d S' c ∧
    ((NoImmD d ∧ NoImmS S' ∧ K (renD (nmOf ns nx) d) ⟨nmDs ds ++ storeNames S ns ++ ns ++ news nx c, ns ++ news nx c⟩ (ap (callOut (nmOf ns nx) S' (ns ++ news nx c) 0) S) (nx + c)) ∨
     K (renD (nmOf ns nx) d) ⟨nmDs ds ++ storeNames S ns ++ ns ++ news nx c, nmDs ds ++ storeNames S ns ++ ns ++ news nx c⟩ (ap (callOut (nmOf ns nx) S' (ns ++ news nx c) 0) (frz (lent ns ds S) S)) (nx + c))

def room : Nat := 2147483648
def wide : Nat := 4096
/-- what is appended: its elements -/
def srcK (S : Store) (d : D) (K : List (List D) → Prop) : Prop :=
  match immD S d with
  | some (.sl ys) => K ys
  | _ => False
def appendK (t : TypeId) (S : Store) (nx : Nat) (dx dy : D) (K : D → Fp → Store → Nat → Prop) : Prop :=
  tyK E t fun td => match td.kind with
    | .slice e => tyK E e fun te => srcK S dy fun ys => ys.length ≤ room ∧ te.bytes ≤ wide ∧ (∀ cs ∈ ys, cs.length = te.size) ∧
        match dx with
        | .nil => K (.own nx) ⟨nx :: nmD dy, nx :: nmD dy⟩ ((nx, .own e ys) :: frz (nmD dy) S) (nx + 1)
        | .own m => match lk S m with
          | some (.own e' xs) => match Nat.beq e e' && !memB m (nmD dy) with
            | true => xs.length ≤ room ∧ K (.own nx) ⟨nx :: m :: nmD dy, nx :: m :: nmD dy⟩ ((nx, .own e (xs ++ ys)) :: del m (frz (nmD dy) S)) (nx + 1)
            | false => False
          | _ => False
        | _ => False
    | _ => False

def setB (n : Nat) (b : Blk) (S : Store) : Store := (n, b) :: del n S
def storeK (S : Store) (da dx : D) (K : Fp → Store → Prop) : Prop :=
  match da with
  | .bp n off => match lk S n with
    | some (.box e cs) => match Nat.ble (off + (cellsOf dx).length) cs.length with
      | true => K ⟨[n], [n]⟩ (setB n (.box e (fillX cs off (cellsOf dx))) S)
      | false => False
    | _ => False
  | .op n sz i off => match lk S n with
    | some (.own e xs) => match immD S dx with
      | some dx' => memB n (nmD dx) = false ∧ szK E e sz (∃ cs, xs[i]? = some cs ∧ off + (cellsOf dx').length ≤ cs.length ∧
          K ⟨n :: nmD dx, n :: nmD dx⟩ (setB n (.own e (xs.set i (fillX cs off (cellsOf dx')))) (frz (nmD dx) S)))
      | none => False
    | some (.row e xs) => szK E e sz (∃ cs, xs[i]? = some cs ∧ off + (cellsOf dx).length ≤ cs.length ∧
          K ⟨[n], [n]⟩ (setB n (.row e (xs.set i (fillX cs off (cellsOf dx)))) S))
    | _ => False
  | _ => False

def fieldK (places : List (Nat × Nat)) (i : Nat) (d : D) (K : D → Prop) : Prop :=
  match places[i]? with
  | some (o, z) => match Nat.blt 0 z with
    | true => match d with
      | .bp n off => K (.bp n (off + o))
      | .op n sz i off => K (.op n sz i (off + o))
      | .ep cs => K (.ep (cs.drop o))
      | _ => False
    | false => False
  | none => False

def bytesOf (l : List UInt8) : List (List D) := l.map fun c => [D.k .u8 (c.toNat : Int)]
def convK (E : Env) (ts td : TD) (d : D) (S : Store) (K : D → Prop) : Prop :=
  match ts.kind, td.kind, d with
  | .int _, .int kd, .k _ n => ∃ r, kd.wrap n = r ∧ K (.k kd r)
  | .str, .str, .s l => K (.s l)
  | .slice e, .str, d => tyK E e fun te => match te.kind, immD S d with
    | .int .u8, some (.sl xs) => ∃ l : List UInt8, xs = bytesOf l ∧ l.length ≤ room ∧ K (.s l)
    | _, _ => False
  | _, _, _ => False

def isByte (te : TD) : Bool :=
  match te.kind, te.zero with
  | .int .u8, .k .u8 0 => Nat.beq te.bytes 1
  | _, _ => false
def builtinK (b : Builtin) (tys : List TypeId) (ds : List D) (dst : Option Nat) (tm : Tm) (S : Store) (nx : Nat) (K : Kt) : Prop :=
  match b, ds with
  | .len, [d] => match tys with
    | [t] => tyK E t fun td => lenK td.kind S d fun n => K ⟨nmD d, []⟩ (put dst (.k .i64 n) tm) S nx
    | _ => False
  | .append, [x, y] => match tys with
    | [t, t'] => match Nat.beq t t' with
      | true => appendK E t S nx x y fun d fp S' nx' => K fp (put dst d tm) S' nx'
      | false => tyK E t' fun td' => tyK E t fun td => match td'.kind, y, td.kind with
        | .str, .s l, .slice e => tyK E e fun te => isByte te = true ∧ appendK E t S nx x (.sl (bytesOf l)) fun d fp S' nx' => K fp (put dst d tm) S' nx'
        | _, _, _ => False
    | _ => False
  | .min, [.k .i64 m, .k .i64 n] => K ⟨[], []⟩ (put dst (.k .i64 (min m n)) tm) S nx
  | .max, [.k .i64 m, .k .i64 n] => K ⟨[], []⟩ (put dst (.k .i64 (max m n)) tm) S nx
  | _, _ => False

def fp0 : Fp := ⟨[], []⟩
def fpN (nx : Nat) : Fp := ⟨[nx], [nx]⟩
def fpR (d : D) : Fp := ⟨nmD d, []⟩
def awpOp (o : Oper) (tm : Tm) (S : Store) (nx : Nat) (K : Kt) : Prop :=
  match o.op with
  | .move x => evK E.gl tm x fun d => K fp0 (put o.dst d tm) S nx
  | .assign x => evK E.gl tm x fun d => match d with
    | .nil => match E.ty o.type with
      | some td => match td.kind with
        | .slice e => K (fpN nx) (put o.dst (.own nx) tm) ((nx, .own e []) :: S) (nx + 1)
        | _ => K fp0 (put o.dst .nil tm) S nx
      | none => K fp0 (put o.dst .nil tm) S nx
    | d => K fp0 (put o.dst d tm) S nx
  | .pick c a b => evK E.gl tm c fun d => match d with
    | .b x => bsplit x fun y => match y with
      | true => evK E.gl tm a fun d => K fp0 (put o.dst d tm) S nx
      | false => evK E.gl tm b fun d => K fp0 (put o.dst d tm) S nx
    | _ => False
  | .alloc e => tyK E e fun td => K (fpN nx) (put o.dst (.bp nx 0) tm) ((nx, .box e (cellsOf td.zero)) :: S) (nx + 1)
  | .box e x => evK E.gl tm x fun d => match isTup d with
    | true => False
    | false => K (fpN nx) (put o.dst (.bp nx 0) tm) ((nx, .box e (cellsOf d)) :: S) (nx + 1)
  | .build t parts => tyK E t fun td => match td.kind with
    | .struct places => fillParts E.gl tm places parts.toList (cellsOf td.zero) fun cs => K fp0 (put o.dst (.agg cs) tm) S nx
    | _ => False
  | .buildSlice t n parts => tyK E t fun td => match td.kind with
    | .slice e => tyK E e fun te => sliceParts E.gl tm S te.size parts.toList (List.replicate n (cellsOf te.zero)) fun xs => n ≤ 65536 ∧ te.size ≤ 256 ∧
        K ⟨nx :: partNames E.gl tm parts.toList, nx :: partNames E.gl tm parts.toList⟩ (put o.dst (.own nx) tm) ((nx, .own e xs) :: frz (partNames E.gl tm parts.toList) S) (nx + 1)
    | _ => False
  | .load t a => evK E.gl tm a fun d => tyK E t fun td => addrK E S d td fun d' => K (fpR d) (put o.dst d' tm) S nx
  | .store t a x => evK E.gl tm a fun da => evK E.gl tm x fun dx => tyK E t fun td => match Nat.beq td.size (cellsOf dx).length && !isTup dx with
    | true => storeK E S da dx fun fp S' => K fp (put o.dst (.tup []) tm) S' nx
    | false => False
  | .fieldAddr t x f => evK E.gl tm x fun d => tyK E t fun td => match td.kind with
    | .struct places => fieldK places f d fun d' => K fp0 (put o.dst d' tm) S nx
    | _ => False
  | .indexAddr t x i => evK E.gl tm x fun d => evK E.gl tm i fun di => tyK E t fun td => match td.kind, di with
    | .slice e, .k _ n => tyK E e fun te => indexK S d e te.size n fun d' => K (fpR d) (put o.dst d' tm) S nx
    | .parr m e, .k _ n => tyK E e fun te => match d, Nat.beq te.size 1 with
      | .ep cs, true => ∃ (j : Nat) (c : D), n = (j : Int) ∧ j < m ∧ cs[j]? = some c ∧ K fp0 (put o.dst (.ep [c]) tm) S nx
      | _, _ => False
    | _, _ => False
  | .index t x i => evK E.gl tm x fun d => evK E.gl tm i fun di => tyK E t fun td => match td.kind, d, di with
    | .str, .s l, .k _ n => ∃ (j : Nat) (c : UInt8), n = (j : Int) ∧ l[j]? = some c ∧ K fp0 (put o.dst (.k .u8 (c.toNat : Int)) tm) S nx
    | _, _, _ => False
  | .binOp op t x y _ => evK E.gl tm x fun dx => evK E.gl tm y fun dy => match dx, dy with
    | .b p, .b q => tyK E t fun td => match td.kind with
      | .bool => boolOpK op p q fun d => K fp0 (put o.dst d tm) S nx
      | _ => False
    | .agg ds, .agg es => tyK E t fun td => match td.eqv with
      | some c => aggOpK op c ds es fun d => K fp0 (put o.dst d tm) S nx
      | none => False
    | dx, dy => binOpK op dx dy fun d => K fp0 (put o.dst d tm) S nx
  | .unOp op _ x => evK E.gl tm x fun d => match op, d with
    | .not, .b x => K fp0 (put o.dst (.b (!x)) tm) S nx
    | .neg, .k kd n => ∃ r, kd.wrap (0 - n) = r ∧ K fp0 (put o.dst (.k kd r) tm) S nx
    | _, _ => False
  | .convert s t x => evK E.gl tm x fun d => tyK E s fun ts => tyK E t fun td => convK E ts td d S fun d' => K ⟨nmD d, []⟩ (put o.dst d' tm) S nx
  | .slice t x lo hi none => evK E.gl tm x fun d => tyK E t fun td => sliceK E E.gl td.kind S d tm lo hi fun d' wr S' => K ⟨nmD d, wr⟩ (put o.dst d' tm) S' nx
  | .makeSlice t l c => evK E.gl tm l fun dl => evK E.gl tm c fun dc => tyK E t fun td => match td.kind, dl, dc with
    | .slice e, .k _ m, .k _ m' => tyK E e fun te => ∃ n : Nat, m = (n : Int) ∧ m' = (n : Int) ∧ n ≤ room ∧ te.bytes ≤ wide ∧
        K (fpN nx) (put o.dst (.own nx) tm) ((nx, .own e (List.replicate n (cellsOf te.zero))) :: S) (nx + 1)
    | _, _, _ => False
  | .extract x i => evK E.gl tm x fun d => match d with
    | .tup ds => match ds[i]? with
      | some d' => K fp0 (put o.dst d' tm) S nx
      | none => False
    | _ => False
  | .nilCheck x => evK E.gl tm x fun d => match d with
    | .bp n off => K fp0 (put o.dst (.bp n off) tm) S nx
    | .op n z i off => K fp0 (put o.dst (.op n z i off) tm) S nx
    | .ep cs => K fp0 (put o.dst (.ep cs) tm) S nx
    | _ => False
  | .makeFunc (.func f) first caps => evsK E.gl tm caps.toList fun ds => match first.toList, boxes ds with
    | [], some cs => K fp0 (put o.dst (.fn f cs) tm) S nx
    | _, _ => False
  | .call c => evsK E.gl tm c.args.toList fun ds => match c.callee with
    | .builtin b => builtinK E b c.argTypes.toList ds o.dst tm S nx K
    | .value (.func f) => callK E f ds S nx fun d fp S' nx' => K fp (put o.dst d tm) S' nx'
    | .value (.tmp t) => match lk tm t with
      | some (.fn f cs) => callK E f (ds ++ cs.map fun n => .bp n 0) S nx fun d fp S' nx' => K fp (put o.dst d tm) S' nx'
      | _ => False
    | _ => False
  | _ => False
where
  boxes : List D → Option (List Nat)
    | [] => some []
    | .bp n 0 :: r => match boxes r with
      | some q => some (n :: q)
      | none => none
    | _ => none

def awpOps (ops : Array Oper) : List Oper → Tm → Store → Nat → List Fp → (List Fp → Tm → Store → Nat → Prop) → Prop
  | [], tm, S, nx, fs, K => K fs tm S nx
  | o :: r, tm, S, nx, fs, K => match o.guard with
    | none => awpOp E o tm S nx fun fp tm S nx => awpOps ops r tm S nx (fp :: fs) K
    | some (j, want) => match (ops[j]?).bind (·.dst) with
      | none => False
      | some t => match lk tm t with
        | some (.b x) => bsplit x fun y => match want, y with
          | true, true => awpOp E o ((t, .b true) :: tm) S nx fun fp tm S nx => awpOps ops r tm S nx (fp :: fs) K
          | false, false => awpOp E o ((t, .b false) :: tm) S nx fun fp tm S nx => awpOps ops r tm S nx (fp :: fs) K
          | _, y => awpOps ops r (put o.dst (.tup []) ((t, .b y) :: tm)) S nx (fp0 :: fs) K
        | some (.tup []) => awpOps ops r (put o.dst (.tup []) tm) S nx (fp0 :: fs) K
        | _ => False

/-- the operations that come ahead of an operation in every order, as bits -/
def aheadOf (bs : List Nat) : List Edge → Nat
  | [] => 0
  | e :: r => match Region.binds .any e with
    | true => Nat.lor (Nat.lor (Nat.shiftLeft 1 e.on) (bs.getD e.on 0)) (aheadOf bs r)
    | false => aheadOf bs r
def aheads : List Oper → List Nat → List Nat
  | [], bs => bs
  | o :: r, bs => aheads r (bs ++ [aheadOf bs o.after.toList])
def meets : List Nat → List Nat → Bool
  | [], _ => false
  | n :: r, q => memB n q || meets r q
def mentions (ops : Array Oper) (o : Oper) : List Nat :=
  (match o.dst with | some t => [t] | none => []) ++ (match o.guard with | some (j, _) => (match (ops[j]?).bind (·.dst) with | some t => [t] | none => []) | none => []) ++
    o.op.operands.toList.filterMap fun | .tmp t => some t | _ => none
def bitAt (m i : Nat) : Bool := Nat.beq (Nat.mod (Nat.shiftRight m i) 2) 1
/-- each of those ahead that clashes comes first in every order -/
def clearOf (fp : Fp) (ms : List Nat) (dst : Option Nat) (m : Nat) : List (Fp × List Nat × Option Nat) → Nat → Bool
  | [], _ => true
  | (fq, mq, dq) :: r, i => (bitAt m i || !(meets fp.wr fq.all || meets fq.wr fp.all || (match dst with | some t => memB t mq | none => false) || (match dq with | some t => memB t ms | none => false))) && clearOf fp ms dst m r (i + 1)
def clearAll (ops : Array Oper) (bs : List Nat) : List Oper → List Fp → List (Fp × List Nat × Option Nat) → Nat → Bool
  | [], _, _, _ => true
  | _ :: _, [], _, _ => false
  | o :: r, fp :: fs, acc, i => clearOf fp (mentions ops o) o.dst (bs.getD i 0) acc 0 && clearAll ops bs r fs (acc ++ [(fp, mentions ops o, o.dst)]) (i + 1)
/-- each edge points back -/
def edgesB : List Oper → Nat → Bool
  | [], _ => true
  | o :: r, i => (o.after.toList.all fun e => !Region.binds .any e || Nat.blt e.on i) && edgesB r (i + 1)
def noSel : List Oper → Bool
  | [] => true
  | o :: r => (match o.op with | .select .. => false | _ => true) && noSel r
def drawB (ops : Array Oper) (fs : List Fp) : Bool := edgesB ops.toList 0 && noSel ops.toList && clearAll ops (aheads ops.toList []) ops.toList fs [] 0

inductive Ex where
  | normal
  | exit (id : Nat)
  | ret
  deriving Inhabited

/-- what is carried round a loop: the slots (ts) and the names (ns: a name's new name is its place) -/
def carA (ns : List Nat) : D → Option D
  | .own t => match posOf ns t with
    | some i => some (.own i)
    | none => none
  | .bp t o => match posOf ns t with
    | some i => some (.bp i o)
    | none => none
  | .op _ _ _ _ => none
  | .fn f cs => match posAll ns cs with
    | some qs => some (.fn f qs)
    | none => none
  | .junk => none
  | d => some d
def carAs (ns : List Nat) : List D → List D
  | [] => []
  | d :: r => match carA ns d with
    | some d' => d' :: carAs ns r
    | none => .junk :: carAs ns r
def carD (ns : List Nat) : D → Option D
  | .agg ds => some (.agg (carAs ns ds))
  | .tup _ => none
  | d => carA ns d
def carB (ns : List Nat) : Blk → Blk
  | .box e cs => .box e (carAs ns cs)
  | .row e xs => .row e (xs.map (carAs ns))
  | b => b
def carTm (ns : List Nat) (tm : Tm) : List Nat → Tm
  | [] => []
  | t :: r => match lk tm t with
    | some d => match carD ns d with
      | some d' => (t, d') :: carTm ns tm r
      | none => carTm ns tm r
    | none => carTm ns tm r
def carS (ns : List Nat) (S : Store) : List Nat → Nat → Store
  | [], _ => []
  | n :: r, i => match lk S n with
    | some b => (i, carB ns b) :: carS ns S r (i + 1)
    | none => carS ns S r (i + 1)
def preB (i : Nat) : Nat → List Nat → Bool
  | 0, _ => true
  | k + 1, n :: r => Nat.beq n i && preB (i + 1) k r
  | _ + 1, [] => false

/-- turns of the view: a name is written no more and read as a list; a nil slice is one of the call's own -/
inductive Mv where
  | ice (n : Nat)
  | thaw (t e : Nat)
  | thawB (n i e : Nat)
def iceA (n : Nat) (xs : List (List D)) : D → D
  | .own t => match Nat.beq t n with
    | true => .sl xs
    | false => .own t
  | d => d
def iceD (n : Nat) (xs : List (List D)) : D → D
  | .agg ds => .agg (ds.map (iceA n xs))
  | d => iceA n xs d
def iceB (n : Nat) (xs : List (List D)) : Blk → Blk
  | .box e cs => .box e (cs.map (iceA n xs))
  | .row e ys => .row e (ys.map fun cs => cs.map (iceA n xs))
  | b => b
def isNil : D → Bool
  | .nil => true
  | _ => false
def mv (m : Mv) (tm : Tm) (S : Store) (nx : Nat) : Option (Tm × Store × Nat) :=
  match m with
  | .ice n => match lk S n with
    | some (.own _ xs) => some (tm.map fun (t, d) => (t, iceD n xs d), (del n S).map fun (t, b) => (t, iceB n xs b), nx)
    | some (.fr xs) => some (tm.map fun (t, d) => (t, iceD n xs d), (del n S).map fun (t, b) => (t, iceB n xs b), nx)
    | _ => none
  | .thaw t e => match lk tm t with
    | some d => match isNil d with
      | true => some ((t, .own nx) :: tm, (nx, .own e []) :: S, nx + 1)
      | false => none
    | _ => none
  | .thawB n i e => match lk S n with
    | some (.box e' cs) => match cs[i]? with
      | some d => match isNil d with
        | true => some (tm, (nx, .own e []) :: setB n (.box e' (cs.set i (.own nx))) S, nx + 1)
        | false => none
      | none => none
    | _ => none
def mvs : List Mv → Tm → Store → Nat → Option (Tm × Store × Nat)
  | [], tm, S, nx => some (tm, S, nx)
  | m :: r, tm, S, nx => match mv m tm S nx with
    | some (tm, S, nx) => mvs r tm S nx
    | none => none
def landK (k0 : Nat) (tm : Tm) (S : Store) (nx : Nat) (J : Tm → Store → Nat → Prop) : Prop :=
  ∃ (ms : List Mv) (ts ns : List Nat), match mvs ms tm S nx with
    | some (tm1, S1, _) => nodupB ns = true ∧ preB 0 k0 ns = true ∧ J (carTm ns tm1 ts) (carS ns S1 ns 0) ns.length
    | none => False

def awp (k0 : Nat) : Code → Tm → Store → Nat → (Ex → Tm → Store → Nat → Prop) → Prop
  | .skip, tm, S, nx, Q => Q .normal tm S nx
  | .region _ ops draw, tm, S, nx, Q => match draw with
    | false => awpOps E ops ops.toList tm S nx [] fun _ tm S nx => Q .normal tm S nx
    | true => awpOps E ops ops.toList tm S nx [] fun fs tm S nx => drawB ops fs.reverse = true ∧ Q .normal tm S nx
  | .seq a b, tm, S, nx, Q => awp k0 a tm S nx fun e tm S nx => match e with
    | .normal => awp k0 b tm S nx Q
    | e => Q e tm S nx
  | .cond c a b, tm, S, nx, Q => match c with
    | .tmp t => match lk tm t with
      | some (.b x) => bsplit x fun y => match y with
        | true => awp k0 a ((t, .b true) :: tm) S nx Q
        | false => awp k0 b ((t, .b false) :: tm) S nx Q
      | _ => False
    | .const (.bool true) => awp k0 a tm S nx Q
    | .const (.bool false) => awp k0 b tm S nx Q
    | _ => False
  | .block id b, tm, S, nx, Q => awp k0 b tm S nx fun e tm S nx => match e with
    | .exit i => match Nat.beq i id with
      | true => Q .normal tm S nx
      | false => Q (.exit i) tm S nx
    | e => Q e tm S nx
  | .loop b, tm, S, nx, Q => ∃ (I : Nat → Tm → Store → Nat → Prop), (∃ m, landK k0 tm S nx (I m)) ∧
      ∀ m tm S nx, I m tm S nx → awp k0 b tm S nx fun e tm S nx' => match e with
        | .normal => ∃ m', m' < m ∧ landK k0 tm S nx' (I m')
        | e => Q e tm S nx'
  | .exit id, tm, S, nx, Q => Q (.exit id) tm S nx
  | .ret, tm, S, nx, Q => Q .ret tm S nx
  | _, _, _, _, _ => False

/-- the results -/
def resK (tm : Tm) (S : Store) : List ResultVar → (List D → Prop) → Prop
  | [], K => K []
  | .tmp t :: r, K => match lk tm t with
    | some d => resK tm S r fun ds => K (d :: ds)
    | none => False
  | .cell a t :: r, K => match lk tm a with
    | some d => tyK E t fun td => addrK E S d td fun d' => resK tm S r fun ds => K (d' :: ds)
    | none => False
def oneRes : List D → D
  | [d] => d
  | ds => .tup ds
def carGs (ns : List Nat) : List D → Option (List D)
  | [] => some []
  | d :: r => match carD ns d with
    | some d' => match carGs ns r with
      | some r' => some (d' :: r')
      | none => none
    | none => none
def carR (ns : List Nat) : D → Option D
  | .tup ds => match carGs ns ds with
    | some ds' => some (.tup ds')
    | none => none
  | d => carD ns d
def finK (k0 : Nat) (rv : List ResultVar) (d : D) (S' : Store) (tm : Tm) (S : Store) (nx : Nat) : Prop :=
  ∃ (ms : List Mv) (ns : List Nat), match mvs ms tm S nx with
    | some (tm1, S1, _) => resK E tm1 S1 rv fun ds => nodupB ns = true ∧ preB 0 k0 ns = true ∧ carR ns (oneRes ds) = some d ∧ carS ns S1 ns 0 = S'
    | none => False
def finQ (k0 : Nat) (rv : List ResultVar) (d : D) (S' : Store) : Ex → Tm → Store → Nat → Prop
  | .exit _, _, _, _ => False
  | .normal, tm, S, nx => finK E k0 rv d S' tm S nx
  | .ret, tm, S, nx => finK E k0 rv d S' tm S nx
end
end Go.Ab
