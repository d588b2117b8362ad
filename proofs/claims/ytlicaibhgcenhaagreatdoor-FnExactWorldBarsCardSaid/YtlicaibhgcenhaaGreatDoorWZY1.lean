/- Texts of this claim, set close: lemmas and contracts. -/
import Derived.Below
import Derived.IntWalk
import Derived.WalkKit
import Derived.WalkLawsBesides
import Derived.Laws.MakeOwn
import Derived.Laws.StructEq
import Derived.Laws.BytesString
import Derived.Great.BuildSlice
import Derived.Maps.AppendAt
import Derived.Lib.AppendStr
set_option linter.unusedVariables false
set_option linter.unusedSimpArgs false
namespace Go.Ab
open Go Go.RowKit
inductive D where
 | b (x : Bool)
 | k (kd : IntKind) (n : Int)
 | s (l : List UInt8)
 | v (x : Value)
 | nil
 | sl (xs : List (List D))
 | ep (cs : List D)
 | own (t : Nat)
 | bp (t off : Nat)
 | op (t sz i off : Nat)
 | fn (f : FuncId) (caps : List Nat)
 | agg (ds : List D)
 | tup (ds : List D)
 | vw (t sz a b : Nat)
 | junk
 deriving Inhabited
inductive Slot where
 | an (xs : List (List D))
 | nm (t : Nat)
 | lost
 deriving Inhabited
inductive Blk where
 | box (e : TypeId) (cs : List D)
 | own (e : TypeId) (xs : List (List D))
 | row (e : TypeId) (xs : List (List D))
 | fr (xs : List (List D))
 | deep (e e2 : TypeId) (zs : List Slot)
 deriving Inhabited
abbrev Tm := List (Nat × D)
abbrev Store := List (Nat × Blk)
def lk {α : Type} : List (Nat × α) → Nat → Option α
 | [], _ => none
 | (n, a) :: r, m => match Nat.beq n m with
   | true => some a
   | false => lk r m
def del {α : Type} (m : Nat) : List (Nat × α) → List (Nat × α)
 | [] => []
 | (n, a) :: r => match Nat.beq n m with
   | true => del m r
   | false => (n, a) :: del m r
abbrev Out := List (Nat × Option Blk)
def ap : Out → Store → Store
 | [], S => S
 | (n, o) :: r, S => match o with
   | some b => (n, b) :: del n (ap r S)
   | none => del n (ap r S)
inductive TK where
 | str | int (k : IntKind) | bool | slice (e : TypeId) | struct (places : List (Nat × Nat)) | parr (n : Nat) (e : TypeId) | other
structure TD where
 kind : TK
 size : Nat
 bytes : Nat
 zero : D
 eqv : Option (List Nat) := none
 deep : Bool := false
 view : Bool := false
def isAggK : TK → Bool
 | .struct _ => true
 | .parr _ _ => true
 | _ => false
def ofV : Value → Option D
 | .bool x => some (.b x)
 | .int kd n => some (.k kd n)
 | .string s => some (.s s.data.toList)
 | .slice none 0 0 => some .nil
 | .pointer none => some (.v (.pointer none))
 | _ => none
structure Env where
 P : Program
 ty : TypeId → Option TD
 gl : Nat → Option (List D)
def ev (gl : Nat → Option (List D)) (tm : Tm) : Operand → Option D
 | .tmp t => lk tm t
 | .const v => ofV v
 | .func f => some (.fn f [])
 | .global g => match gl g with
   | some cs => some (.ep cs)
   | none => none
def cellsOf : D → List D
 | .agg ds => ds
 | d => [d]
def memB (n : Nat) : List Nat → Bool
 | [] => false
 | m :: r => Nat.beq m n || memB n r
def nmA : D → List Nat
 | .own t => [t]
 | .bp t _ => [t]
 | .op t _ _ _ => [t]
 | .fn _ cs => cs
 | .vw t _ _ _ => [t]
 | _ => []
def nmAs : List D → List Nat
 | [] => []
 | d :: r => nmA d ++ nmAs r
def nmD : D → List Nat
 | .agg ds => nmAs ds
 | .tup ds => nmAs ds
 | d => nmA d
def nmDs : List D → List Nat
 | [] => []
 | d :: r => nmD d ++ nmDs r
def imZ : List Slot → Option (List (List D))
 | [] => some []
 | .an xs :: r => match imZ r with
   | some q => some ([.sl xs] :: q)
   | none => none
 | .nm _ :: _ => none
 | .lost :: _ => none
def imB : Blk → Option (List (List D))
 | .own _ xs => some xs
 | .fr xs => some xs
 | .deep _ _ zs => imZ zs
 | _ => none
def immA (S : Store) : D → Option D
 | .own t => match lk S t with
   | some b => match imB b with
     | some xs => some (.sl xs)
     | none => none
   | none => none
 | .nil => some (.sl [])
 | .bp _ _ => none
 | .op _ _ _ _ => none
 | .fn f cs => match cs with
   | [] => some (.fn f [])
   | _ => none
 | .junk => none
 | .agg _ => none
 | .tup _ => none
 | .vw _ _ _ _ => none
 | d => some d
def immAs (S : Store) : List D → Option (List D)
 | [] => some []
 | d :: r => match immA S d with
   | some d' => match immAs S r with
     | some r' => some (d' :: r')
     | none => none
   | none => none
def immD (S : Store) : D → Option D
 | .agg ds => match immAs S ds with
   | some ds' => some (.agg ds')
   | none => none
 | d => immA S d
def frz1 (t : Nat) : Store → Store
 | [] => []
 | (n, b) :: r => match Nat.beq n t with
   | true => match imB b with
     | some xs => (n, .fr xs) :: frz1 t r
     | none => (n, b) :: frz1 t r
   | false => (n, b) :: frz1 t r
def frz : List Nat → Store → Store
 | [], S => S
 | t :: r, S => frz r (frz1 t S)
def nmOf (ns : List Nat) (nx : Nat) (i : Nat) : Nat :=
 match ns[i]? with
 | some n => n
 | none => nx + (i - ns.length)
def renA (f : Nat → Nat) : D → D
 | .own t => .own (f t)
 | .bp t o => .bp (f t) o
 | .op t z i o => .op (f t) z i o
 | .vw t z a b => .vw (f t) z a b
 | .fn g cs => .fn g (cs.map f)
 | d => d
def renG (f : Nat → Nat) : D → D
 | .agg es => .agg (es.map (renA f))
 | d => renA f d
def renD (f : Nat → Nat) : D → D
 | .tup ds => .tup (ds.map (renG f))
 | d => renG f d
def renZ (f : Nat → Nat) : Slot → Slot
 | .nm t => .nm (f t)
 | z => z
def renB (f : Nat → Nat) : Blk → Blk
 | .box e cs => .box e (cs.map (renA f))
 | .row e xs => .row e (xs.map fun cs => cs.map (renA f))
 | .deep e e2 zs => .deep e e2 (zs.map (renZ f))
 | b => b
def NoImmA : D → Prop
 | .sl _ => False
 | .ep _ => False
 | .agg _ => False
 | .tup _ => False
 | .junk => False
 | _ => True
def NoImmG : D → Prop
 | .agg ds => ∀ d ∈ ds, NoImmA d
 | d => NoImmA d
def NoImmD : D → Prop
 | .tup ds => ∀ d ∈ ds, NoImmG d
 | d => NoImmG d
def slotAll (p : D → Prop) : Slot → Prop
 | .an xs => ∀ cs ∈ xs, ∀ d ∈ cs, p d
 | _ => True
def NoImmB : Blk → Prop
 | .box _ cs => ∀ d ∈ cs, NoImmA d
 | .own _ xs => ∀ cs ∈ xs, ∀ d ∈ cs, NoImmA d
 | .row _ xs => ∀ cs ∈ xs, ∀ d ∈ cs, NoImmA d
 | .fr _ => False
 | .deep _ _ zs => ∀ z ∈ zs, slotAll NoImmA z
def NoImmS (S : Store) : Prop := ∀ p ∈ S, NoImmB p.2
def top : Value → Value
 | .tuple us => us.getD 0 undef
 | v => v
def Kp (u u' : Value) : Prop := u' = u ∨ ∃ (x : Value) (vs vs' : List Value), u = .tuple (x :: vs).toArray ∧ u' = .tuple (x :: vs').toArray
def nmv (ρ : Nat → Option Value) (t : Nat) : Option Value := (ρ t).map top
section rel
variable (w : World) (Av : Nat → Prop)
inductive VI : D → Value → Prop
 | b (x : Bool) : VI (.b x) (.bool x)
 | k (kd : IntKind) (n : Int) : VI (.k kd n) (.int kd n)
 | s (l : List UInt8) : VI (.s l) (.string ⟨l.toArray⟩)
 | v {x : Value} (h : x.oneCell' = true) : VI (.v x) x
 | fn (f : FuncId) : VI (.fn f []) (.func (.func f) #[] #[])
 | nil : VI .nil (.slice none 0 0)
 | sl0 : VI (.sl []) (.slice none 0 0)
 | sl {xs : List (List D)} {ad : Addr} {n c sz : Nat} (U : Nat → Nat → Value) (hn : xs.length = n) (hnc : n ≤ c) (hc : c ≤ maxLen) (hb : xs ≠ [] → ad.block < w.heap.size)
  (hav : xs ≠ [] → ¬ Av ad.block) (hsz : ∀ cs ∈ xs, cs.length = sz) (hcell : ∀ (i j : Nat) (cs : List D) (d : D), xs[i]? = some cs → cs[j]? = some d → w.cell? (ad.add (i * sz + j)) = some (U i j))
  (h1 : ∀ (i j : Nat) (cs : List D) (d : D), xs[i]? = some cs → cs[j]? = some d → (U i j).oneCell' = true)
  (hrec : ∀ (i j : Nat) (cs : List D) (d : D), xs[i]? = some cs → cs[j]? = some d → VI d (U i j)) : VI (.sl xs) (.slice (some ad) n c)
 | ep {cs : List D} {ad : Addr} (U : Nat → Value) (hb : ad.block < w.heap.size) (hav : ¬ Av ad.block) (hcell : ∀ (j : Nat) (d : D), cs[j]? = some d → w.cell? (ad.add j) = some (U j))
  (h1 : ∀ (j : Nat) (d : D), cs[j]? = some d → (U j).oneCell' = true)
  (hrec : ∀ (j : Nat) (d : D), cs[j]? = some d → VI d (U j)) : VI (.ep cs) (.pointer (some ad))
 | agg {ds : List D} {us : List Value} (hl : ds.length = us.length) (h1 : ∀ u ∈ us, u.oneCell' = true) (hrec : ∀ (i : Nat) (d : D) (u : Value), ds[i]? = some d → us[i]? = some u → VI d u) : VI (.agg ds) (.agg us.toArray)
variable (ρ : Nat → Option Value)
inductive VA : D → Value → Prop
 | im {d : D} {u : Value} (h : VI w Av d u) : VA d u
 | own {t : Nat} {u : Value} (h : nmv ρ t = some u) (h1 : u.oneCell' = true) : VA (.own t) u
 | bp {t off b : Nat} (h : ρ t = some (.pointer (some ⟨b, 0, none⟩))) : VA (.bp t off) (.pointer (some ⟨b, off, none⟩))
 | op {t i off g n c sz : Nat} (h : nmv ρ t = some (.slice (some ⟨g, 0, none⟩) n c)) : VA (.op t sz i off) (.pointer (some ⟨g, i * sz + off, none⟩))
 | fn {f : FuncId} {cs : List Nat} {us : List Value} (hl : cs.length = us.length) (h : ∀ (i n : Nat) (u : Value), cs[i]? = some n → us[i]? = some u → ρ n = some u ∧ ∃ b, u = .pointer (some ⟨b, 0, none⟩)) : VA (.fn f cs) (.func (.func f) #[] us.toArray)
 | vw {t sz a b n c : Nat} {A : Option Addr} (h : ρ t = some (.slice A n c)) (h1 : a ≤ b) (h2 : b ≤ n) (h3 : n ≤ c) (h4 : A = none → c = 0) : VA (.vw t sz a b) (.slice (if c = a then A else A.map (·.add (a * sz))) (b - a) (c - a))
 | junk {u : Value} (h1 : u.oneCell' = true) : VA .junk u
inductive VG : D → Value → Prop
 | atom {d : D} {u : Value} (h : VA w Av ρ d u) : VG d u
 | agg {ds : List D} {us : List Value} (hl : ds.length = us.length) (h1 : ∀ u ∈ us, u.oneCell' = true) (h : ∀ (i : Nat) (d : D) (u : Value), ds[i]? = some d → us[i]? = some u → VA w Av ρ d u) : VG (.agg ds) (.agg us.toArray)
inductive VR : D → Value → Prop
 | gr {d : D} {u : Value} (h : VG w Av ρ d u) : VR d u
 | tup {ds : List D} {us : List Value} (hl : ds.length = us.length) (h : ∀ (i : Nat) (d : D) (u : Value), ds[i]? = some d → us[i]? = some u → VG w Av ρ d u) : VR (.tup ds) (.tuple us.toArray)
end rel
def blkOf : Value → Option Nat
 | .pointer (some a) => some a.block
 | .slice (some a) _ _ => some a.block
 | _ => none
def live : Blk → Bool
 | .fr _ => false
 | _ => true
def bk (b : Blk) (o : Option Value) (x : Nat) : Prop :=
 match b with
 | .deep _ _ zs => ∃ (u : Value) (vs : List Value), o = some (.tuple (u :: vs).toArray) ∧ (blkOf u = some x ∨ ∃ (i : Nat) (xs : List (List D)) (v : Value), zs[i]? = some (.an xs) ∧ vs[i]? = some v ∧ blkOf v = some x)
 | _ => o.bind blkOf = some x
def Held (S : Store) (ρ : Nat → Option Value) (x : Nat) : Prop := ∃ t b, lk S t = some b ∧ live b = true ∧ bk b (ρ t) x
def AvS (G : Nat → Prop) (S : Store) (ρ : Nat → Option Value) (x : Nat) : Prop := G x ∨ Held S ρ x
structure Rows (p : D → Value → Prop) (sz : Nat) (xs : List (List D)) (us : List Value) : Prop where
 len : us.length = xs.length * sz
 el : ∀ cs ∈ xs, cs.length = sz
 one : ∀ u ∈ us, u.oneCell' = true
 at_ : ∀ (i j : Nat) (cs : List D) (d : D), xs[i]? = some cs → cs[j]? = some d → ∃ u, us[i * sz + j]? = some u ∧ p d u
def SlotOk (P : Program) (w : World) (Av : Nat → Prop) (ρ : Nat → Option Value) (e2 : TypeId) (z : Slot) (u v : Value) : Prop :=
 match z with
 | .an xs => u = v ∧ ∃ us : List Value, w.ownsRow 0 e2 (P.cellsOf e2) v xs.length us ∧ Rows (VI w Av) (P.cellsOf e2) xs us
 | .nm a => nmv ρ a = some u
 | .lost => True
structure DeepOk (P : Program) (w : World) (Av : Nat → Prop) (ρ : Nat → Option Value) (t : Nat) (e e2 : TypeId) (zs : List Slot) (u : Value) (vs us : List Value) : Prop where
 name : ρ t = some (.tuple (u :: vs).toArray)
 lv : vs.length = zs.length
 lu : us.length = zs.length
 own : w.ownsRow 0 e 1 u zs.length us
 one : ∀ x ∈ us, x.oneCell' = true
 slot : ∀ (i : Nat) (z : Slot) (x v : Value), zs[i]? = some z → us[i]? = some x → vs[i]? = some v → SlotOk P w Av ρ e2 z x v
 apart : ∀ (i : Nat) (xs : List (List D)) (v : Value) (x : Nat), zs[i]? = some (.an xs) → vs[i]? = some v → blkOf v = some x → blkOf u ≠ some x
 dis : ∀ (i j : Nat) (xs ys : List (List D)) (v v' : Value) (x : Nat), zs[i]? = some (.an xs) → zs[j]? = some (.an ys) → vs[i]? = some v → vs[j]? = some v' → blkOf v = some x → blkOf v' = some x → i = j
def SR (P : Program) (w : World) (Av : Nat → Prop) (ρ : Nat → Option Value) (t : Nat) : Blk → Prop
 | .box e cs => ∃ (b : Nat) (us : List Value), ρ t = some (.pointer (some ⟨b, 0, none⟩)) ∧ w.heap[b]? = some (.cells us.toArray e (0, 0)) ∧ cs.length = us.length ∧
  (∀ u ∈ us, u.oneCell' = true) ∧ ∀ (i : Nat) (d : D) (u : Value), cs[i]? = some d → us[i]? = some u → VA w Av ρ d u
 | .own e xs => ∃ (u : Value) (us : List Value), ρ t = some u ∧ w.ownsRow 0 e (P.cellsOf e) u xs.length us ∧ Rows (VI w Av) (P.cellsOf e) xs us
 | .row e xs => ∃ (u : Value) (us : List Value), ρ t = some u ∧ w.ownsRow 0 e (P.cellsOf e) u xs.length us ∧ Rows (VA w Av ρ) (P.cellsOf e) xs us
 | .fr xs => ∃ u, nmv ρ t = some u ∧ VI w Av (.sl xs) u
 | .deep e e2 zs => ∃ (u : Value) (vs us : List Value), DeepOk P w Av ρ t e e2 zs u vs us
def Dis (S : Store) (ρ : Nat → Option Value) : Prop :=
 ∀ t t' b b' x, lk S t = some b → lk S t' = some b' → live b = true → live b' = true → bk b (ρ t) x → bk b' (ρ t') x → t = t'
structure Fr (F : Nat → Prop) (w w' : World) : Prop where
 os : w'.os = w.os
 tape : w'.tape = w.tape
 output : w'.output = w.output
 size : w.heap.size ≤ w'.heap.size
 block : ∀ k, k < w.heap.size → ¬ F k → w'.heap[k]? = w.heap[k]?
structure Cx where
 N : Nat
 w0 : World
 ρ0 : Nat → Option Value
 k0 : Nat
 F : Nat → Prop
 G : Nat → Prop
structure R (E : Env) (cx : Cx) (tm : Tm) (S : Store) (a : Act) (w : World) (ρ : Nat → Option Value) : Prop where
 tm : ∀ t d, lk tm t = some d → VR w (AvS cx.G S ρ) ρ d (a.tmps.getD t undef)
 st : ∀ t b, lk S t = some b → SR E.P w (AvS cx.G S ρ) ρ t b
 dis : Dis S ρ
 new : ∀ x, Held S ρ x → cx.w0.heap.size ≤ x ∨ cx.F x
 keep : ∀ t u, t < cx.k0 → cx.ρ0 t = some u → ∃ u', ρ t = some u' ∧ Kp u u'
 gl : ∀ g cs, E.gl g = some cs → VI w (AvS cx.G S ρ) (.ep cs) (.pointer (some ⟨g, 0, none⟩))
 fr : Fr cx.F cx.w0 w
 g : ∀ x, cx.G x → x < cx.w0.heap.size
 gf : ∀ x, cx.G x → ¬ cx.F x
 defers : a.defers = []
 num : a.tmps.size = cx.N
def Callable (P : Program) (f : FuncId) : Prop := ∃ fn, P.funcs[f]? = some fn ∧ fn.body.isNone = false ∧ (fn.name == "runtime.NumGoroutine") = false
structure Con (E : Env) (f : FuncId) (k : Nat) (cds : List D) (Sa : Store) (d : D) (S' : Store) : Prop where
 can : Callable E.P f
 run : ∀ (w : World) (vs : List Value) (ρ : Nat → Option Value) (G : Nat → Prop), cds.length = vs.length → (∀ x, G x → x < w.heap.size) → (∀ x, G x → ¬ Held Sa ρ x) →
  (∀ (i : Nat) (d : D) (u : Value), cds[i]? = some d → vs[i]? = some u → VG w (AvS G Sa ρ) ρ d u) → (∀ t b, lk Sa t = some b → SR E.P w (AvS G Sa ρ) ρ t b) → Dis Sa ρ → (∀ t, k ≤ t → ρ t = none) →
  (∀ g cs, E.gl g = some cs → VI w (AvS G Sa ρ) (.ep cs) (.pointer (some ⟨g, 0, none⟩))) →
  Calls E.P f vs.toArray w fun e w' => ∃ v ρ', e = .returned v ∧ VR w' (AvS G S' ρ') ρ' d v ∧ (∀ t b, lk S' t = some b → SR E.P w' (AvS G S' ρ') ρ' t b) ∧ Dis S' ρ' ∧
   (∀ x, Held S' ρ' x → w.heap.size ≤ x ∨ Held Sa ρ x) ∧ (∀ t u, t < k → ρ t = some u → ∃ u', ρ' t = some u' ∧ Kp u u') ∧ Fr (Held Sa ρ) w w'
structure Fp where
 all : List Nat
 wr : List Nat
abbrev Kt := Fp → Tm → Store → Nat → Prop
def isTup : D → Bool
 | .tup _ => true
 | _ => false
def evK (gl : Nat → Option (List D)) (tm : Tm) (x : Operand) (K : D → Prop) : Prop :=
 match ev gl tm x with
 | some d => K d
 | none => False
def evsK (gl : Nat → Option (List D)) (tm : Tm) : List Operand → (List D → Prop) → Prop
 | [], K => K []
 | x :: r, K => match ev gl tm x with
   | some d => evsK gl tm r fun ds => K (d :: ds)
   | none => False
structure bsplit (x : Bool) (K : Bool → Prop) : Prop where
 t : x = true → K true
 f : x = false → K false
def put (d : Option Nat) (x : D) (tm : Tm) : Tm :=
 match d with
 | some t => (t, x) :: tm
 | none => tm
def fillX {α : Type} : List α → Nat → List α → List α
 | cs, _, [] => cs
 | cs, o, d :: r => fillX (cs.set o d) (o + 1) r
def fillParts (gl : Nat → Option (List D)) (tm : Tm) (places : List (Nat × Nat)) : List (Nat × Operand) → List D → (List D → Prop) → Prop
 | [], cs, K => K cs
 | (i, x) :: r, cs, K => match places[i]? with
   | some (o, z) => evK gl tm x fun d => match Nat.beq (cellsOf d).length z && Nat.ble (o + z) cs.length && !isTup d with
     | true => fillParts gl tm places r (fillX cs o (cellsOf d)) K
     | false => False
   | none => False
def sliceParts (gl : Nat → Option (List D)) (tm : Tm) (S : Store) (z : Nat) : List (Nat × Operand) → List (List D) → (List (List D) → Prop) → Prop
 | [], xs, K => K xs
 | (i, x) :: r, xs, K => evK gl tm x fun d => match immD S d with
   | some d' => match Nat.beq (cellsOf d').length z && Nat.blt i xs.length with
     | true => sliceParts gl tm S z r (xs.set i (cellsOf d')) K
     | false => False
   | none => False
def partNames (gl : Nat → Option (List D)) (tm : Tm) : List (Nat × Operand) → List Nat
 | [] => []
 | (_, x) :: r => match ev gl tm x with
   | some d => nmD d ++ partNames gl tm r
   | none => partNames gl tm r
def loadK (td : TD) (cs : List D) (K : D → Prop) : Prop :=
 match isAggK td.kind with
 | true => match Nat.ble td.size cs.length with
   | true => K (.agg (cs.take td.size))
   | false => False
 | false => match cs with
   | d :: _ => K d
   | [] => False
def intOp (op : BinOp) (kd : IntKind) (m n : Int) (K : D → Prop) : Prop :=
 match op with
 | .add => ∃ r, kd.wrap (m + n) = r ∧ K (.k kd r)
 | .sub => ∃ r, kd.wrap (m - n) = r ∧ K (.k kd r)
 | .mul => ∃ r, kd.wrap (m * n) = r ∧ K (.k kd r)
 | .quo => n ≠ 0 ∧ ∃ r, kd.wrap (m.tdiv n) = r ∧ K (.k kd r)
 | .rem => n ≠ 0 ∧ ∃ r, m.tmod n = r ∧ K (.k kd r)
 | .eql => K (.b (decide (m = n)))
 | .neq => K (.b (!decide (m = n)))
 | .lss => K (.b (decide (m < n)))
 | .leq => K (.b (decide (m ≤ n)))
 | .gtr => K (.b (decide (m > n)))
 | .geq => K (.b (decide (m ≥ n)))
 | .xor => ∃ r, (Op.intBits .xor kd m n = Sem.pure (.int kd r)) ∧ K (.k kd r)
 | .and => ∃ r, (Op.intBits .and kd m n = Sem.pure (.int kd r)) ∧ K (.k kd r)
 | _ => False
def strOp (op : BinOp) (a b : List UInt8) (K : D → Prop) : Prop :=
 match op with
 | .add => a.length + b.length ≤ 9223372036854775807 ∧ K (.s (a ++ b))
 | .eql => K (.b (decide (a = b)))
 | .neq => K (.b (!decide (a = b)))
 | .lss => K (.b (Op.bytesLess a b))
 | .leq => K (.b (Op.bytesLess a b || decide (a = b)))
 | .gtr => K (.b (!(Op.bytesLess a b || decide (a = b))))
 | .geq => K (.b (!Op.bytesLess a b))
 | _ => False
def isK (a b : IntKind) : Bool := decide (a = b)
def eqA (c : Nat) (d e : D) : Option Bool :=
 match c, d, e with
 | 0, .b x, .b y => some (x == y)
 | 1, .k a m, .k b n => match isK a b with
   | true => some (decide (m = n))
   | false => none
 | 2, .s x, .s y => some (decide (x = y))
 | _, _, _ => none
def eqAs : List Nat → List D → List D → Option Bool
 | [], [], [] => some true
 | c :: q, x :: r, y :: p => match eqA c x y with
   | some e => match eqAs q r p with
     | some e' => some (e && e')
     | none => none
   | none => none
 | _, _, _ => none
def binOpK (op : BinOp) (dx dy : D) (K : D → Prop) : Prop :=
 match dx, dy with
 | .k kd m, .k kd' n => match isK kd kd' with
   | true => intOp op kd m n K
   | false => False
 | .s a, .s b => strOp op a b K
 | _, _ => False
def boolOpK (op : BinOp) (x y : Bool) (K : D → Prop) : Prop :=
 match op with
 | .eql => K (.b (x == y))
 | .neq => K (.b (!(x == y)))
 | _ => False
def aggOpK (op : BinOp) (c : List Nat) (ds es : List D) (K : D → Prop) : Prop :=
 match eqAs c ds es with
 | some x => match op with
   | .eql => K (.b x)
   | .neq => K (.b (!x))
   | _ => False
 | none => False
section
variable (E : Env)
def tyK (t : TypeId) (K : TD → Prop) : Prop :=
 match E.ty t with
 | some td => K td
 | none => False
def szK (e : TypeId) (sz : Nat) (K : Prop) : Prop :=
 match E.ty e with
 | some te => match Nat.beq te.size sz with
   | true => K
   | false => False
 | none => False
def addrK (S : Store) (d : D) (td : TD) (K : D → Prop) : Prop :=
 match d with
 | .bp n off => match lk S n with
   | some (.box _ cs) => loadK td (cs.drop off) K
   | _ => False
 | .ep cs => loadK td cs K
 | .op n sz i off => match lk S n with
   | some (.own e xs) => szK E e sz (∃ cs, xs[i]? = some cs ∧ loadK td (cs.drop off) K)
   | some (.row e xs) => szK E e sz (∃ cs, xs[i]? = some cs ∧ loadK td (cs.drop off) K)
   | _ => False
 | _ => False
def indexK (S : Store) (d : D) (e : TypeId) (z : Nat) (i : Int) (K : D → Prop) : Prop :=
 match d with
 | .sl xs => ∃ (j : Nat) (cs : List D), i = (j : Int) ∧ xs[j]? = some cs ∧ cs.length = z ∧ K (.ep cs)
 | .own t => match lk S t with
   | some (.own e' xs) => match Nat.beq e e' with
     | true => ∃ (j : Nat), i = (j : Int) ∧ j < xs.length ∧ K (.op t z j 0)
     | false => False
   | some (.row e' xs) => match Nat.beq e e' with
     | true => ∃ (j : Nat), i = (j : Int) ∧ j < xs.length ∧ K (.op t z j 0)
     | false => False
   | some (.deep e' _ zs) => match Nat.beq e e' with
     | true => ∃ (j : Nat), i = (j : Int) ∧ j < zs.length ∧ K (.op t z j 0)
     | false => False
   | some (.fr xs) => ∃ (j : Nat) (cs : List D), i = (j : Int) ∧ xs[j]? = some cs ∧ cs.length = z ∧ K (.ep cs)
   | _ => False
 | _ => False
def boundK (gl : Nat → Option (List D)) (tm : Tm) (x : Option Operand) (dflt : Nat) (K : Nat → Prop) : Prop :=
 match x with
 | none => K dflt
 | some y => match ev gl tm y with
   | some (.k _ n) => ∃ j : Nat, n = (j : Int) ∧ K j
   | _ => False
def cutK (gl : Nat → Option (List D)) (tm : Tm) (lo hi : Option Operand) (n : Nat) (K : Nat → Nat → Prop) : Prop :=
 boundK gl tm lo 0 fun i => boundK gl tm hi n fun j => i ≤ j ∧ j ≤ n ∧ K i j
def sliceK (gl : Nat → Option (List D)) (kd : TK) (S : Store) (d : D) (tm : Tm) (lo hi : Option Operand) (K : D → List Nat → Store → Prop) : Prop :=
 match kd with
 | .str => match d with
   | .s l => cutK gl tm lo hi l.length fun i j => K (.s ((l.take j).drop i)) [] S
   | _ => False
 | .slice e => tyK E e fun te => match d with
   | .sl xs => (∀ cs ∈ xs, cs.length = te.size) ∧ cutK gl tm lo hi xs.length fun i j => K (.sl ((xs.take j).drop i)) [] S
   | .nil => cutK gl tm lo hi 0 fun _ _ => K .nil [] S
   | .own t => match immA S (.own t) with
     | some (.sl xs) => (∀ cs ∈ xs, cs.length = te.size) ∧ cutK gl tm lo hi xs.length fun i j => K (.sl ((xs.take j).drop i)) [t] (frz1 t S)
     | _ => False
   | _ => False
 | _ => False
def lenK (kd : TK) (S : Store) (d : D) (K : Int → Prop) : Prop :=
 match kd with
 | .str => match d with
   | .s l => K (l.length : Int)
   | _ => False
 | .slice _ => match d with
   | .sl xs => K (xs.length : Int)
   | .nil => K 0
   | .vw _ _ a b => K ((b - a : Nat) : Int)
   | .own t => match lk S t with
     | some (.own _ xs) => K (xs.length : Int)
     | some (.row _ xs) => K (xs.length : Int)
     | some (.deep _ _ zs) => K (zs.length : Int)
     | some (.fr xs) => K (xs.length : Int)
     | _ => False
   | _ => False
 | _ => False
def posOf (ns : List Nat) (n : Nat) : Option Nat :=
 match ns with
 | [] => none
 | m :: r => match Nat.beq m n with
   | true => some 0
   | false => match posOf r n with
     | some i => some (i + 1)
     | none => none
def posAll (ns : List Nat) : List Nat → Option (List Nat)
 | [] => some []
 | n :: r => match posOf ns n with
   | some i => match posAll ns r with
     | some q => some (i :: q)
     | none => none
   | none => none
def argA (ns : List Nat) (S : Store) : D → Option D
 | .own t => match posOf ns t with
   | some i => some (.own i)
   | none => immA S (.own t)
 | .bp t o => match posOf ns t with
   | some i => some (.bp i o)
   | none => none
 | .fn f cs => match posAll ns cs with
   | some qs => some (.fn f qs)
   | none => none
 | d => immA S d
def argAs (ns : List Nat) (S : Store) : List D → Option (List D)
 | [] => some []
 | d :: r => match argA ns S d with
   | some d' => match argAs ns S r with
     | some r' => some (d' :: r')
     | none => none
   | none => none
def argD (ns : List Nat) (S : Store) : D → Option D
 | .agg ds => match argAs ns S ds with
   | some ds' => some (.agg ds')
   | none => none
 | d => argA ns S d
def argDs (ns : List Nat) (S : Store) : List D → Option (List D)
 | [] => some []
 | d :: r => match argD ns S d with
   | some d' => match argDs ns S r with
     | some r' => some (d' :: r')
     | none => none
   | none => none
def argRows (ns : List Nat) (S : Store) : List (List D) → Option (List (List D))
 | [] => some []
 | d :: r => match argAs ns S d with
   | some d' => match argRows ns S r with
     | some r' => some (d' :: r')
     | none => none
   | none => none
def argB (ns : List Nat) (S : Store) : Blk → Option Blk
 | .box e cs => match argAs ns S cs with
   | some cs' => some (.box e cs')
   | none => none
 | .own e xs => some (.own e xs)
 | .row e xs => match argRows ns S xs with
   | some xs' => some (.row e xs')
   | none => none
 | .fr xs => some (.fr xs)
 | .deep e e2 zs => match imZ zs with
   | some _ => some (.deep e e2 zs)
   | none => none
def argS (ns : List Nat) (S : Store) : List Nat → Nat → Option Store
 | [], _ => some []
 | n :: r, i => match lk S n with
   | some b => match argB ns S b with
     | some b' => match argS ns S r (i + 1) with
       | some q => some ((i, b') :: q)
       | none => none
     | none => none
   | none => none
def rowNames : List (List D) → List Nat
 | [] => []
 | d :: r => nmAs d ++ rowNames r
def slotNames0 : List Slot → List Nat
 | [] => []
 | .nm t :: r => t :: slotNames0 r
 | _ :: r => slotNames0 r
def blkNames : Blk → List Nat
 | .box _ cs => nmAs cs
 | .row _ xs => rowNames xs
 | .deep _ _ zs => slotNames0 zs
 | _ => []
def storeNames (S : Store) : List Nat → List Nat
 | [] => []
 | n :: r => match lk S n with
   | some b => blkNames b ++ storeNames S r
   | none => storeNames S r
def minus (ns : List Nat) : List Nat → List Nat
 | [] => []
 | n :: r => match memB n ns with
   | true => minus ns r
   | false => n :: minus ns r
def keysB (k : Nat) : Store → Bool
 | [] => true
 | (i, _) :: r => Nat.blt i k && keysB k r
def ltB (k : Nat) : List Nat → Bool
 | [] => true
 | n :: r => Nat.blt n k && ltB k r
def nmR : D → List Nat
 | .tup ds => nmDs ds
 | d => nmD d
def domB (k : Nat) : Store → Bool
 | [] => true
 | (_, b) :: r => ltB k (blkNames b) && domB k r
def nodupB : List Nat → Bool
 | [] => true
 | n :: r => !memB n r && nodupB r
def news (nx : Nat) : Nat → List Nat
 | 0 => []
 | c + 1 => nx :: news (nx + 1) c
def callOut (f : Nat → Nat) (S' : Store) : List Nat → Nat → Out
 | [], _ => []
 | n :: r, i => (n, match lk S' i with | some b => some (renB f b) | none => none) :: callOut f S' r (i + 1)
def dropNs (ns : List Nat) : Store → Store
 | [] => []
 | (n, b) :: r => match memB n ns with
   | true => dropNs ns r
   | false => (n, b) :: dropNs ns r
def newB (f : Nat → Nat) (S' T : Store) : List Nat → Nat → Store
 | [], _ => T
 | n :: r, i => match lk S' i with
   | some b => (n, renB f b) :: newB f S' T r (i + 1)
   | none => match memB n r with
     | true => del n (newB f S' T r (i + 1))
     | false => newB f S' T r (i + 1)
def apC (f : Nat → Nat) (S' : Store) (ns : List Nat) (S : Store) : Store := newB f S' (dropNs ns S) ns 0
def lent (ns : List Nat) (ds : List D) (S : Store) : List Nat := minus ns (nmDs ds ++ storeNames S ns)
structure CallOf (f : FuncId) (ds : List D) (S : Store) (nx : Nat) (ns : List Nat) (cds : List D) (Sa : Store) (d : D) (S' : Store) (c : Nat) : Prop where
 nd : nodupB ns = true
 ar : argDs ns S ds = some cds
 st : argS ns S ns 0 = some Sa
 con : Con E f ns.length cds Sa d S'
 keys : keysB (ns.length + c) S' = true
 dom : (ltB (ns.length + c) (nmR d) && domB (ns.length + c) S') = true
def sameP (S2 S : Store) : List Nat → Prop
 | [] => True
 | n :: r => lk S2 n = lk S n ∧ sameP S2 S r
def subB (ns : List Nat) : List Nat → Bool
 | [] => true
 | n :: r => memB n ns && subB ns r
def callK (f : FuncId) (ds : List D) (S : Store) (nx : Nat) (K : D → Fp → Store → Nat → Prop) : Prop :=
 ∃ (ns : List Nat) (cds : List D) (Sa : Store) (d : D) (S' : Store) (c : Nat), CallOf E f ds S nx ns cds Sa d S' c ∧
   ((∃ sm : List Nat, sameP (apC (nmOf ns nx) S' (ns ++ news nx c) S) S sm ∧ (ltB nx sm && subB ns sm) = true ∧ ((NoImmD d ∧ NoImmS S') ∨ lent ns ds S = []) ∧ K (renD (nmOf ns nx) d) ⟨nmDs ds ++ storeNames S ns ++ ns ++ news nx c, minus sm (ns ++ news nx c)⟩ (apC (nmOf ns nx) S' (ns ++ news nx c) S) (nx + c)) ∨
    K (renD (nmOf ns nx) d) ⟨nmDs ds ++ storeNames S ns ++ ns ++ news nx c, nmDs ds ++ storeNames S ns ++ ns ++ news nx c⟩ (apC (nmOf ns nx) S' (ns ++ news nx c) (frz (lent ns ds S) S)) (nx + c))
def room : Nat := 2147483648
def wide : Nat := 4096
def isNil0 : D → Bool
 | .nil => true
 | _ => false
def srcK (S : Store) (d : D) (K : List (List D) → Prop) : Prop :=
 match immD S d with
 | some (.sl ys) => K ys
 | _ => False
def appendK (t : TypeId) (S : Store) (nx : Nat) (dx dy : D) (K : D → Fp → Store → Nat → Prop) : Prop :=
 tyK E t fun td => match td.kind with
  | .slice e => tyK E e fun te => srcK S dy fun ys => ys.length ≤ room ∧ te.bytes ≤ wide ∧ (∀ cs ∈ ys, cs.length = te.size) ∧
   match dx with
   | .nil => K (.own nx) ⟨nx :: nmD dy, nx :: nmD dy⟩ ((nx, .own e ys) :: frz (nmD dy) S) (nx + 1)
   | .own m => match lk S m with
     | some (.own e' xs) => match Nat.beq e e' && !memB m (nmD dy) with
       | true => xs.length ≤ room ∧ K (.own nx) ⟨nx :: m :: nmD dy, nx :: m :: nmD dy⟩ ((nx, .own e (xs ++ ys)) :: del m (frz (nmD dy) S)) (nx + 1)
       | false => False
     | _ => False
   | _ => False
  | _ => False
def fL : List D → (List D → Prop) → Prop
 | [], k => k []
 | d :: r, k => fL r fun r' => k (d :: r')
theorem fL_eq : ∀ (l : List D) (k : List D → Prop), fL l k = k l
 | [], _ => rfl
 | d :: r, k => by rw [fL, fL_eq r]
def setB (n : Nat) (b : Blk) (S : Store) : Store := (n, b) :: del n S
def storeK (S : Store) (da dx : D) (K : Fp → Store → Prop) : Prop :=
 match da with
 | .bp n off => match lk S n with
   | some (.box e cs) => match Nat.ble (off + (cellsOf dx).length) cs.length with
     | true => fL (cs.take off ++ cellsOf dx ++ cs.drop (off + (cellsOf dx).length)) fun cs' => K ⟨[n], [n]⟩ (setB n (.box e cs') S)
     | false => False
   | _ => False
 | .op n sz i off => match lk S n with
   | some (.own e xs) => match immD S dx with
     | some dx' => memB n (nmD dx) = false ∧ szK E e sz (∃ cs, xs[i]? = some cs ∧ off + (cellsOf dx').length ≤ cs.length ∧
      K ⟨n :: nmD dx, n :: nmD dx⟩ (setB n (.own e (xs.set i (fillX cs off (cellsOf dx')))) (frz (nmD dx) S)))
     | none => False
   | some (.row e xs) => szK E e sz (∃ cs, xs[i]? = some cs ∧ off + (cellsOf dx).length ≤ cs.length ∧
    K ⟨[n], [n]⟩ (setB n (.row e (xs.set i (fillX cs off (cellsOf dx)))) S))
   | some (.deep e e2 zs) => match off, dx with
     | 0, .own a => match lk S a with
       | some (.own e3 _) => match Nat.beq e2 e3 && Nat.beq sz 1 with
         | true => i < zs.length ∧ K ⟨[n, a], [n]⟩ (setB n (.deep e e2 (zs.set i (.nm a))) S)
         | false => False
       | _ => False
     | _, _ => False
   | _ => False
 | _ => False
def openK (S : Store) (nx : Nat) (d : D) (K : D → Fp → Store → Nat → Prop) : Prop :=
 match d with
 | .op n sz i 0 => match lk S n with
   | some (.deep e e2 zs) => match Nat.beq sz 1 with
     | true => ∃ z, zs[i]? = some z ∧ match z with
       | .an xs => K (.own nx) ⟨[nx, n], [nx, n]⟩ ((nx, .own e2 xs) :: setB n (.deep e e2 (zs.set i (.nm nx))) S) (nx + 1)
       | .nm a => K (.own a) ⟨[n], []⟩ S nx
       | .lost => False
     | false => False
   | _ => False
 | _ => False
def viewK (gl : Nat → Option (List D)) (kd : TK) (S : Store) (d : D) (tm : Tm) (lo hi : Option Operand) (K : D → Prop) : Prop :=
 match kd with
 | .slice e => tyK E e fun te => match d with
   | .own t => match lk S t with
     | some (.own _ xs) => cutK gl tm lo hi xs.length fun i j => K (.vw t te.size i j)
     | _ => False
   | .vw t z 0 b => match lk S t with
     | some (.own _ xs) => match Nat.beq z te.size with
       | true => boundK gl tm lo 0 fun i => boundK gl tm hi b fun j => i ≤ j ∧ j ≤ xs.length ∧ K (.vw t te.size i j)
       | false => False
     | _ => False
   | _ => False
 | _ => False
def view3K (gl : Nat → Option (List D)) (kd : TK) (S : Store) (d : D) (tm : Tm) (lo hi : Option Operand) (mx : Operand) (K : Prop) : Prop :=
 match kd with
 | .slice e => tyK E e fun _ => match d, lo, hi with
   | .own t, some l, some h => match lk S t, ev gl tm l, ev gl tm h, ev gl tm mx with
     | some (.own _ xs), some (.k _ a), some (.k _ b), some (.k _ c) => ∃ i j k : Nat, a = (i : Int) ∧ b = (j : Int) ∧ c = (k : Int) ∧ i ≤ j ∧ j ≤ k ∧ k ≤ xs.length ∧ K
     | _, _, _, _ => False
   | _, _, _ => False
 | _ => False
def appendVK (t : TypeId) (S : Store) (nx : Nat) (dx dy : D) (K : D → Fp → Store → Nat → Prop) : Prop :=
 tyK E t fun td => match td.kind with
  | .slice e => tyK E e fun te => match dx, dy with
    | .vw m z 0 i, .vw m' z' j n => match lk S m with
      | some (.own e' xs) => match Nat.beq m m' && Nat.beq e e' && Nat.beq z te.size && Nat.beq z' te.size with
        | true => i ≤ j ∧ j ≤ n ∧ n ≤ xs.length ∧ K (.vw m te.size 0 (i + (n - j))) ⟨[m], [m]⟩ (setB m (.own e (xs.take i ++ (xs.take n).drop j ++ xs.drop (i + (n - j)))) S) nx
        | false => False
      | _ => False
    | _, _ => False
  | _ => False
def clearVK (t : TypeId) (S : Store) (nx : Nat) (d : D) (K : Fp → Store → Nat → Prop) : Prop :=
 tyK E t fun td => match td.kind with
  | .slice e => tyK E e fun te => match d with
    | .vw m z a b => match lk S m with
      | some (.own e' xs) => match Nat.beq e e' && Nat.beq z te.size with
        | true => a ≤ b ∧ b ≤ xs.length ∧ K ⟨[m], [m]⟩ (setB m (.own e (xs.take a ++ List.replicate (b - a) (cellsOf te.zero) ++ xs.drop b)) S) nx
        | false => False
      | _ => False
    | _ => False
  | _ => False
def deepAt (S : Store) : D → Bool
 | .op n _ _ _ => match lk S n with
   | some (.deep _ _ _) => true
   | _ => false
 | _ => false
def appendDK (t : TypeId) (S : Store) (nx : Nat) (dx dy : D) (K : D → Fp → Store → Nat → Prop) : Prop :=
 tyK E t fun td => match td.kind with
  | .slice e => tyK E e fun te => match te.kind, dy with
    | .slice e2, .own r => match lk S r with
      | some (.deep e' e2' ws) => match Nat.beq e e' && Nat.beq e2 e2' && Nat.beq te.size 1 with
        | true => ws.length ≤ room ∧ te.bytes ≤ wide ∧
          match dx with
          | .nil => K (.own nx) ⟨[nx, r], [nx, r]⟩ ((nx, .deep e e2 ws) :: del r S) (nx + 1)
          | .own m => match lk S m with
            | some (.deep e'' e2'' zs) => match Nat.beq e e'' && Nat.beq e2 e2'' && !Nat.beq m r with
              | true => zs.length ≤ room ∧ K (.own nx) ⟨[nx, m, r], [nx, m, r]⟩ ((nx, .deep e e2 (zs ++ ws)) :: del m (del r S)) (nx + 1)
              | false => False
            | _ => False
          | _ => False
        | false => False
      | _ => False
    | _, _ => False
  | _ => False
def buildDK (t : TypeId) (gl : Nat → Option (List D)) (tm : Tm) (S : Store) (nx : Nat) (n : Nat) (parts : List (Nat × Operand)) (K : D → Fp → Store → Nat → Prop) : Prop :=
 tyK E t fun td => match td.kind with
  | .slice e => tyK E e fun te => match te.kind, parts with
    | .slice e2, [(0, x)] => evK gl tm x fun d => match d with
      | .own a => match lk S a with
        | some (.own e3 xs) => match Nat.beq e2 e3 && Nat.beq te.size 1 && Nat.beq n 1 with
          | true => K (.own nx) ⟨[nx, a], [nx, a]⟩ ((nx, .deep e e2 [.an xs]) :: del a S) (nx + 1)
          | false => False
        | _ => False
      | _ => False
    | .slice e2, [] => match Nat.beq te.size 1 && Nat.beq n 0 with
      | true => K (.own nx) ⟨[nx], [nx]⟩ ((nx, .deep e e2 []) :: S) (nx + 1)
      | false => False
    | _, _ => False
  | _ => False
def makeDK (t : TypeId) (S : Store) (nx : Nat) (m : Int) (K : D → Fp → Store → Nat → Prop) : Prop :=
 tyK E t fun td => match td.kind with
  | .slice e => tyK E e fun te => match te.kind with
    | .slice e2 => match Nat.beq te.size 1 && isNil0 te.zero with
      | true => ∃ n : Nat, m = (n : Int) ∧ n ≤ room ∧ te.bytes ≤ wide ∧ K (.own nx) (⟨[nx], [nx]⟩) ((nx, .deep e e2 (List.replicate n (.an []))) :: S) (nx + 1)
      | false => False
    | _ => False
  | _ => False
def fieldK (places : List (Nat × Nat)) (i : Nat) (d : D) (K : D → Prop) : Prop :=
 match places[i]? with
 | some (o, z) => match Nat.blt 0 z with
   | true => match d with
     | .bp n off => K (.bp n (off + o))
     | .op n sz i off => K (.op n sz i (off + o))
     | .ep cs => K (.ep (cs.drop o))
     | _ => False
   | false => False
 | none => False
def bytesOf (l : List UInt8) : List (List D) := l.map fun c => [D.k .u8 (c.toNat : Int)]
def convK (E : Env) (ts td : TD) (d : D) (S : Store) (K : D → Prop) : Prop :=
 match ts.kind, td.kind, d with
 | .int _, .int kd, .k _ n => ∃ r, kd.wrap n = r ∧ K (.k kd r)
 | .str, .str, .s l => K (.s l)
 | .slice e, .str, d => tyK E e fun te => match te.kind, immD S d with
   | .int .u8, some (.sl xs) => ∃ l : List UInt8, xs = bytesOf l ∧ l.length ≤ room ∧ K (.s l)
   | _, _ => False
 | _, _, _ => False
def isByte (te : TD) : Bool :=
 match te.kind, te.zero with
 | .int .u8, .k .u8 0 => Nat.beq te.bytes 1
 | _, _ => false
def builtinK (b : Builtin) (tys : List TypeId) (ds : List D) (dst : Option Nat) (tm : Tm) (S : Store) (nx : Nat) (K : Kt) : Prop :=
 match b, ds with
 | .len, [d] => match tys with
   | [t] => tyK E t fun td => lenK td.kind S d fun n => K ⟨nmD d, []⟩ (put dst (.k .i64 n) tm) S nx
   | _ => False
 | .append, [x, y] => match tys with
   | [t, t'] => match Nat.beq t t' with
     | true => tyK E t fun td => match td.deep with
       | true => appendDK E t S nx x y fun d fp S' nx' => K fp (put dst d tm) S' nx'
       | false => match td.view with
        | true => appendVK E t S nx x y fun d fp S' nx' => K fp (put dst d tm) S' nx'
        | false => appendK E t S nx x y fun d fp S' nx' => K fp (put dst d tm) S' nx'
     | false => tyK E t' fun td' => tyK E t fun td => match td'.kind, y, td.kind with
       | .str, .s l, .slice e => tyK E e fun te => isByte te = true ∧ appendK E t S nx x (.sl (bytesOf l)) fun d fp S' nx' => K fp (put dst d tm) S' nx'
       | _, _, _ => False
   | _ => False
 | .clear, [d] => match tys with
   | [t] => clearVK E t S nx d fun fp S' nx' => K fp (put dst (.tup []) tm) S' nx'
   | _ => False
 | .min, [.k .i64 m, .k .i64 n] => K ⟨[], []⟩ (put dst (.k .i64 (min m n)) tm) S nx
 | .max, [.k .i64 m, .k .i64 n] => K ⟨[], []⟩ (put dst (.k .i64 (max m n)) tm) S nx
 | _, _ => False
def fp0 : Fp := ⟨[], []⟩
def fpN (nx : Nat) : Fp := ⟨[nx], [nx]⟩
def fpR (d : D) : Fp := ⟨nmD d, []⟩
def awpOp (o : Oper) (tm : Tm) (S : Store) (nx : Nat) (K : Kt) : Prop :=
 match o.op with
 | .move x => evK E.gl tm x fun d => K fp0 (put o.dst d tm) S nx
 | .assign x => evK E.gl tm x fun d => match d with
   | .nil => match E.ty o.type with
     | some td => match td.kind with
       | .slice e => K (fpN nx) (put o.dst (.own nx) tm) ((nx, .own e []) :: S) (nx + 1)
       | _ => K fp0 (put o.dst .nil tm) S nx
     | none => K fp0 (put o.dst .nil tm) S nx
   | d => K fp0 (put o.dst d tm) S nx
 | .pick c a b => evK E.gl tm c fun d => match d with
   | .b x => bsplit x fun y => match y with
     | true => evK E.gl tm a fun d => K fp0 (put o.dst d tm) S nx
     | false => evK E.gl tm b fun d => K fp0 (put o.dst d tm) S nx
   | _ => False
 | .alloc e => tyK E e fun td => K (fpN nx) (put o.dst (.bp nx 0) tm) ((nx, .box e (cellsOf td.zero)) :: S) (nx + 1)
 | .box e x => evK E.gl tm x fun d => match isTup d with
   | true => False
   | false => K (fpN nx) (put o.dst (.bp nx 0) tm) ((nx, .box e (cellsOf d)) :: S) (nx + 1)
 | .build t parts => tyK E t fun td => match td.kind with
   | .struct places => fillParts E.gl tm places parts.toList (cellsOf td.zero) fun cs => K fp0 (put o.dst (.agg cs) tm) S nx
   | _ => False
 | .buildSlice t n parts => tyK E t fun td => match td.deep with
  | true => buildDK E t E.gl tm S nx n parts.toList fun d fp S' nx' => K fp (put o.dst d tm) S' nx'
  | false => match td.kind with
   | .slice e => tyK E e fun te => sliceParts E.gl tm S te.size parts.toList (List.replicate n (cellsOf te.zero)) fun xs => n ≤ 65536 ∧ te.size ≤ 256 ∧
    K ⟨nx :: partNames E.gl tm parts.toList, nx :: partNames E.gl tm parts.toList⟩ (put o.dst (.own nx) tm) ((nx, .own e xs) :: frz (partNames E.gl tm parts.toList) S) (nx + 1)
   | _ => False
 | .load t a => evK E.gl tm a fun d => tyK E t fun td => match deepAt S d with
   | true => match isAggK td.kind with
     | false => openK S nx d fun d' fp S' nx' => K fp (put o.dst d' tm) S' nx'
     | true => False
   | false => addrK E S d td fun d' => K (fpR d) (put o.dst d' tm) S nx
 | .store t a x => evK E.gl tm a fun da => evK E.gl tm x fun dx => tyK E t fun td => match Nat.beq td.size (cellsOf dx).length && !isTup dx with
   | true => storeK E S da dx fun fp S' => K fp (put o.dst (.tup []) tm) S' nx
   | false => False
 | .fieldAddr t x f => evK E.gl tm x fun d => tyK E t fun td => match td.kind with
   | .struct places => fieldK places f d fun d' => K fp0 (put o.dst d' tm) S nx
   | _ => False
 | .indexAddr t x i => evK E.gl tm x fun d => evK E.gl tm i fun di => tyK E t fun td => match td.kind, di with
   | .slice e, .k _ n => tyK E e fun te => indexK S d e te.size n fun d' => K (fpR d) (put o.dst d' tm) S nx
   | .parr m e, .k _ n => tyK E e fun te => match d, Nat.beq te.size 1 with
     | .ep cs, true => ∃ (j : Nat) (c : D), n = (j : Int) ∧ j < m ∧ cs[j]? = some c ∧ K fp0 (put o.dst (.ep [c]) tm) S nx
     | _, _ => False
   | _, _ => False
 | .index t x i => evK E.gl tm x fun d => evK E.gl tm i fun di => tyK E t fun td => match td.kind, d, di with
   | .str, .s l, .k _ n => ∃ (j : Nat) (c : UInt8), n = (j : Int) ∧ l[j]? = some c ∧ K fp0 (put o.dst (.k .u8 (c.toNat : Int)) tm) S nx
   | _, _, _ => False
 | .binOp op t x y _ => evK E.gl tm x fun dx => evK E.gl tm y fun dy => match dx, dy with
   | .b p, .b q => tyK E t fun td => match td.kind with
     | .bool => boolOpK op p q fun d => K fp0 (put o.dst d tm) S nx
     | _ => False
   | .agg ds, .agg es => tyK E t fun td => match td.eqv with
     | some c => aggOpK op c ds es fun d => K fp0 (put o.dst d tm) S nx
     | none => False
   | dx, dy => binOpK op dx dy fun d => K fp0 (put o.dst d tm) S nx
 | .unOp op _ x => evK E.gl tm x fun d => match op, d with
   | .not, .b x => K fp0 (put o.dst (.b (!x)) tm) S nx
   | .neg, .k kd n => ∃ r, kd.wrap (0 - n) = r ∧ K fp0 (put o.dst (.k kd r) tm) S nx
   | _, _ => False
 | .convert s t x => evK E.gl tm x fun d => tyK E s fun ts => tyK E t fun td => convK E ts td d S fun d' => K ⟨nmD d, []⟩ (put o.dst d' tm) S nx
 | .slice t x lo hi none => evK E.gl tm x fun d => tyK E t fun td => match td.view with
   | true => viewK E E.gl td.kind S d tm lo hi fun d' => K ⟨nmD d, []⟩ (put o.dst d' tm) S nx
   | false => sliceK E E.gl td.kind S d tm lo hi fun d' wr S' => K ⟨nmD d, wr⟩ (put o.dst d' tm) S' nx
 | .slice t x lo hi (some mx) => evK E.gl tm x fun d => tyK E t fun td => match td.view with
   | true => view3K E E.gl td.kind S d tm lo hi mx (K ⟨nmD d, []⟩ (put o.dst .junk tm) S nx)
   | false => False
 | .makeSlice t l c => evK E.gl tm l fun dl => evK E.gl tm c fun dc => tyK E t fun td => match td.deep with
  | true => match dl, dc with
   | .k _ m, .k _ m' => m = m' ∧ makeDK E t S nx m fun d fp S' nx' => K fp (put o.dst d tm) S' nx'
   | _, _ => False
  | false => match td.kind, dl, dc with
   | .slice e, .k _ m, .k _ m' => tyK E e fun te => ∃ n : Nat, m = (n : Int) ∧ m' = (n : Int) ∧ n ≤ room ∧ te.bytes ≤ wide ∧
    K (fpN nx) (put o.dst (.own nx) tm) ((nx, .own e (List.replicate n (cellsOf te.zero))) :: S) (nx + 1)
   | _, _, _ => False
 | .extract x i => evK E.gl tm x fun d => match d with
   | .tup ds => match ds[i]? with
     | some d' => K fp0 (put o.dst d' tm) S nx
     | none => False
   | _ => False
 | .nilCheck x => evK E.gl tm x fun d => match d with
   | .bp n off => K fp0 (put o.dst (.bp n off) tm) S nx
   | .op n z i off => K fp0 (put o.dst (.op n z i off) tm) S nx
   | .ep cs => K fp0 (put o.dst (.ep cs) tm) S nx
   | _ => False
 | .makeFunc (.func f) first caps => evsK E.gl tm caps.toList fun ds => match first.toList, boxes ds with
   | [], some cs => K fp0 (put o.dst (.fn f cs) tm) S nx
   | _, _ => False
 | .call c => evsK E.gl tm c.args.toList fun ds => match c.callee with
   | .builtin b => builtinK E b c.argTypes.toList ds o.dst tm S nx K
   | .value (.func f) => callK E f ds S nx fun d fp S' nx' => K fp (put o.dst d tm) S' nx'
   | .value (.tmp t) => match lk tm t with
     | some (.fn f cs) => callK E f (ds ++ cs.map fun n => .bp n 0) S nx fun d fp S' nx' => K fp (put o.dst d tm) S' nx'
     | _ => False
   | _ => False
 | _ => False
where
 boxes : List D → Option (List Nat)
  | [] => some []
  | .bp n 0 :: r => match boxes r with
    | some q => some (n :: q)
    | none => none
  | _ => none
def awpOps (ops : Array Oper) : List Oper → Tm → Store → Nat → List Fp → (List Fp → Tm → Store → Nat → Prop) → Prop
 | [], tm, S, nx, fs, K => K fs tm S nx
 | o :: r, tm, S, nx, fs, K => match o.guard with
   | none => awpOp E o tm S nx fun fp tm S nx => awpOps ops r tm S nx (fp :: fs) K
   | some (j, want) => match (ops[j]?).bind (·.dst) with
     | none => False
     | some t => match lk tm t with
       | some (.b x) => bsplit x fun y => match want, y with
         | true, true => awpOp E o ((t, .b true) :: tm) S nx fun fp tm S nx => awpOps ops r tm S nx (fp :: fs) K
         | false, false => awpOp E o ((t, .b false) :: tm) S nx fun fp tm S nx => awpOps ops r tm S nx (fp :: fs) K
         | _, y => awpOps ops r (put o.dst (.tup []) ((t, .b y) :: tm)) S nx (fp0 :: fs) K
       | some (.tup []) => awpOps ops r (put o.dst (.tup []) tm) S nx (fp0 :: fs) K
       | _ => False
def aheadOf (bs : List Nat) : List Edge → Nat
 | [] => 0
 | e :: r => match Region.binds .any e with
   | true => Nat.lor (Nat.lor (Nat.shiftLeft 1 e.on) (bs.getD e.on 0)) (aheadOf bs r)
   | false => aheadOf bs r
def aheads : List Oper → List Nat → List Nat
 | [], bs => bs
 | o :: r, bs => aheads r (bs ++ [aheadOf bs o.after.toList])
def meets : List Nat → List Nat → Bool
 | [], _ => false
 | n :: r, q => memB n q || meets r q
def mentions (ops : Array Oper) (o : Oper) : List Nat :=
 (match o.dst with | some t => [t] | none => []) ++ (match o.guard with | some (j, _) => (match (ops[j]?).bind (·.dst) with | some t => [t] | none => []) | none => []) ++
  o.op.operands.toList.filterMap fun | .tmp t => some t | _ => none
def bitAt (m i : Nat) : Bool := Nat.beq (Nat.mod (Nat.shiftRight m i) 2) 1
def clearOf (fp : Fp) (ms : List Nat) (dst : Option Nat) (m : Nat) : List (Fp × List Nat × Option Nat) → Nat → Bool
 | [], _ => true
 | (fq, mq, dq) :: r, i => (bitAt m i || !(meets fp.wr fq.all || meets fq.wr fp.all || (match dst with | some t => memB t mq | none => false) || (match dq with | some t => memB t ms | none => false))) && clearOf fp ms dst m r (i + 1)
def clearAll (ops : Array Oper) (bs : List Nat) : List Oper → List Fp → List (Fp × List Nat × Option Nat) → Nat → Bool
 | [], _, _, _ => true
 | _ :: _, [], _, _ => false
 | o :: r, fp :: fs, acc, i => clearOf fp (mentions ops o) o.dst (bs.getD i 0) acc 0 && clearAll ops bs r fs (acc ++ [(fp, mentions ops o, o.dst)]) (i + 1)
def edgesB : List Oper → Nat → Bool
 | [], _ => true
 | o :: r, i => (o.after.toList.all fun e => !Region.binds .any e || Nat.blt e.on i) && edgesB r (i + 1)
def noSel : List Oper → Bool
 | [] => true
 | o :: r => (match o.op with | .select .. => false | _ => true) && noSel r
def drawB (ops : Array Oper) (fs : List Fp) : Bool := edgesB ops.toList 0 && noSel ops.toList && clearAll ops (aheads ops.toList []) ops.toList fs [] 0
inductive Ex where
 | normal
 | exit (id : Nat)
 | ret
 deriving Inhabited
def carA (ns : List Nat) : D → Option D
 | .own t => match posOf ns t with
   | some i => some (.own i)
   | none => none
 | .bp t o => match posOf ns t with
   | some i => some (.bp i o)
   | none => none
 | .op _ _ _ _ => none
 | .fn f cs => match posAll ns cs with
   | some qs => some (.fn f qs)
   | none => none
 | .junk => none
 | .vw _ _ _ _ => none
 | d => some d
def carAs (ns : List Nat) : List D → List D
 | [] => []
 | d :: r => match carA ns d with
   | some d' => d' :: carAs ns r
   | none => .junk :: carAs ns r
def carD (ns : List Nat) : D → Option D
 | .agg ds => some (.agg (carAs ns ds))
 | .tup _ => none
 | d => carA ns d
def carZ (ns : List Nat) : Slot → Slot
 | .nm t => match posOf ns t with
   | some i => .nm i
   | none => .lost
 | z => z
def carB (ns : List Nat) : Blk → Blk
 | .box e cs => .box e (carAs ns cs)
 | .row e xs => .row e (xs.map (carAs ns))
 | .deep e e2 zs => .deep e e2 (zs.map (carZ ns))
 | b => b
def carTm (ns : List Nat) (tm : Tm) : List Nat → Tm
 | [] => []
 | t :: r => match lk tm t with
   | some d => match carD ns d with
     | some d' => (t, d') :: carTm ns tm r
     | none => carTm ns tm r
   | none => carTm ns tm r
def carS (ns : List Nat) (S : Store) : List Nat → Nat → Store
 | [], _ => []
 | n :: r, i => match lk S n with
   | some b => (i, carB ns b) :: carS ns S r (i + 1)
   | none => carS ns S r (i + 1)
def preB (i : Nat) : Nat → List Nat → Bool
 | 0, _ => true
 | k + 1, n :: r => Nat.beq n i && preB (i + 1) k r
 | _ + 1, [] => false
inductive Mv where
 | ice (n : Nat)
 | thaw (t e : Nat)
 | thawB (n i e : Nat)
 | thawT (t e e2 : Nat)
 | thawD (n i e e2 : Nat)
 | close (n : Nat)
 | shut (n : Nat)
 | trim (t : Nat)
 | anew (n : Nat)
 | openA (n i : Nat)
def iceA (n : Nat) (xs : List (List D)) : D → D
 | .own t => match Nat.beq t n with
   | true => .sl xs
   | false => .own t
 | d => d
def iceD (n : Nat) (xs : List (List D)) : D → D
 | .agg ds => .agg (ds.map (iceA n xs))
 | d => iceA n xs d
def iceB (n : Nat) (xs : List (List D)) : Blk → Blk
 | .box e cs => .box e (cs.map (iceA n xs))
 | .row e ys => .row e (ys.map fun cs => cs.map (iceA n xs))
 | b => b
def isNil : D → Bool
 | .nil => true
 | _ => false
def mvA (n m : Nat) : D → D
 | .own t => match Nat.beq t n with
   | true => .own m
   | false => .own t
 | .op t z i o => match Nat.beq t n with
   | true => .junk
   | false => .op t z i o
 | d => d
def mvD (n m : Nat) : D → D
 | .agg ds => .agg (ds.map (mvA n m))
 | .tup ds => .tup ds
 | d => mvA n m d
def mvB (n m : Nat) : Blk → Blk
 | .box e cs => .box e (cs.map (mvA n m))
 | .row e ys => .row e (ys.map fun cs => cs.map (mvA n m))
 | b => b
def closeZ (S : Store) (e2 : TypeId) : List Slot → Option (List Slot × List Nat)
 | [] => some ([], [])
 | .an xs :: r => match closeZ S e2 r with
   | some (zs, ns) => some (.an xs :: zs, ns)
   | none => none
 | .nm a :: r => match lk S a with
   | some (.own e3 xs) => match Nat.beq e2 e3 with
     | true => match closeZ S e2 r with
       | some (zs, ns) => some (.an xs :: zs, a :: ns)
       | none => none
     | false => none
   | _ => none
 | .lost :: _ => none
def dels : List Nat → Store → Store
 | [], S => S
 | n :: r, S => del n (dels r S)
def mv (m : Mv) (tm : Tm) (S : Store) (nx : Nat) : Option (Tm × Store × Nat) :=
 match m with
 | .ice n => match lk S n with
   | some b => match imB b with
     | some xs => some (tm.map fun (t, d) => (t, iceD n xs d), (del n S).map fun (t, b) => (t, iceB n xs b), nx)
     | none => none
   | none => none
 | .thaw t e => match lk tm t with
   | some d => match isNil d with
     | true => some ((t, .own nx) :: tm, (nx, .own e []) :: S, nx + 1)
     | false => none
   | _ => none
 | .thawT t e e2 => match lk tm t with
   | some d => match isNil d with
     | true => some ((t, .own nx) :: tm, (nx, .deep e e2 []) :: S, nx + 1)
     | false => none
   | _ => none
 | .thawB n i e => match lk S n with
   | some (.box e' cs) => match cs[i]? with
     | some d => match isNil d with
       | true => some (tm, (nx, .own e []) :: setB n (.box e' (cs.set i (.own nx))) S, nx + 1)
       | false => none
     | none => none
   | _ => none
 | .thawD n i e e2 => match lk S n with
   | some (.box e' cs) => match cs[i]? with
     | some d => match isNil d with
       | true => some (tm, (nx, .deep e e2 []) :: setB n (.box e' (cs.set i (.own nx))) S, nx + 1)
       | false => none
     | none => none
   | _ => none
 | .shut n => match lk S n with
   | some (.deep e e2 zs) => match closeZ S e2 zs with
     | some (ws, ns) => match nodupB (n :: ns) with
       | true => some (tm, (n, .deep e e2 ws) :: del n (dels ns S), nx)
       | false => none
     | none => none
   | _ => none
 | .close n => match lk S n with
   | some (.deep e e2 zs) => match closeZ S e2 zs with
     | some (ws, ns) => match nodupB (n :: ns) with
       | true => some (tm.map fun (t, d) => (t, mvD n nx d), ((nx, .deep e e2 ws) :: del n (dels ns S)).map fun (t, b) => (t, mvB n nx b), nx + 1)
       | false => none
     | none => none
   | _ => none
 | .trim t => match lk tm t with
   | some (.vw n _ 0 b) => match lk S n with
     | some (.own e xs) => some ((t, .own nx) :: tm, (nx, .own e (xs.take b)) :: del n S, nx + 1)
     | _ => none
   | _ => none
 | .anew n => match lk S n with
   | some (.own e xs) => some (tm.map fun (t, d) => (t, mvD n nx d), ((nx, .own e xs) :: del n S).map fun (t, b) => (t, mvB n nx b), nx + 1)
   | _ => none
 | .openA n i => match lk S n with
   | some (.deep e e2 zs) => match zs[i]? with
     | some (.an xs) => some (tm, (nx, .own e2 xs) :: setB n (.deep e e2 (zs.set i (.nm nx))) S, nx + 1)
     | _ => none
   | _ => none
def mvs : List Mv → Tm → Store → Nat → Option (Tm × Store × Nat)
 | [], tm, S, nx => some (tm, S, nx)
 | m :: r, tm, S, nx => match mv m tm S nx with
   | some (tm, S, nx) => mvs r tm S nx
   | none => none
def landK (k0 : Nat) (tm : Tm) (S : Store) (nx : Nat) (J : Tm → Store → Nat → Prop) : Prop :=
 ∃ (ms : List Mv) (ts ns : List Nat), match mvs ms tm S nx with
   | some (tm1, S1, _) => nodupB ns = true ∧ preB 0 k0 ns = true ∧ J (carTm ns tm1 ts) (carS ns S1 ns 0) ns.length
   | none => False
def awp (k0 : Nat) : Code → Tm → Store → Nat → (Ex → Tm → Store → Nat → Prop) → Prop
 | .skip, tm, S, nx, Q => Q .normal tm S nx
 | .region _ ops draw, tm, S, nx, Q => match draw with
   | false => awpOps E ops ops.toList tm S nx [] fun _ tm S nx => Q .normal tm S nx
   | true => awpOps E ops ops.toList tm S nx [] fun fs tm S nx => drawB ops fs.reverse = true ∧ Q .normal tm S nx
 | .seq a b, tm, S, nx, Q => awp k0 a tm S nx fun e tm S nx => match e with
   | .normal => awp k0 b tm S nx Q
   | e => Q e tm S nx
 | .cond c a b, tm, S, nx, Q => match c with
   | .tmp t => match lk tm t with
     | some (.b x) => bsplit x fun y => match y with
       | true => awp k0 a ((t, .b true) :: tm) S nx Q
       | false => awp k0 b ((t, .b false) :: tm) S nx Q
     | _ => False
   | .const (.bool true) => awp k0 a tm S nx Q
   | .const (.bool false) => awp k0 b tm S nx Q
   | _ => False
 | .block id b, tm, S, nx, Q => awp k0 b tm S nx fun e tm S nx => match e with
   | .exit i => match Nat.beq i id with
     | true => Q .normal tm S nx
     | false => Q (.exit i) tm S nx
   | e => Q e tm S nx
 | .loop b, tm, S, nx, Q => ∃ (I : Nat → Tm → Store → Nat → Prop), (∃ m, landK k0 tm S nx (I m)) ∧
  ∀ m tm S nx, I m tm S nx → awp k0 b tm S nx fun e tm S nx' => match e with
    | .normal => ∃ m', m' < m ∧ landK k0 tm S nx' (I m')
    | e => Q e tm S nx'
 | .exit id, tm, S, nx, Q => Q (.exit id) tm S nx
 | .ret, tm, S, nx, Q => Q .ret tm S nx
 | _, _, _, _, _ => False
def resK (tm : Tm) (S : Store) : List ResultVar → (List D → Prop) → Prop
 | [], K => K []
 | .tmp t :: r, K => match lk tm t with
   | some d => resK tm S r fun ds => K (d :: ds)
   | none => False
 | .cell a t :: r, K => match lk tm a with
   | some d => tyK E t fun td => addrK E S d td fun d' => resK tm S r fun ds => K (d' :: ds)
   | none => False
def oneRes : List D → D
 | [d] => d
 | ds => .tup ds
def carGs (ns : List Nat) : List D → Option (List D)
 | [] => some []
 | d :: r => match carD ns d with
   | some d' => match carGs ns r with
     | some r' => some (d' :: r')
     | none => none
   | none => none
def carR (ns : List Nat) : D → Option D
 | .tup ds => match carGs ns ds with
   | some ds' => some (.tup ds')
   | none => none
 | d => carD ns d
def finK (k0 : Nat) (rv : List ResultVar) (d : D) (S' : Store) (tm : Tm) (S : Store) (nx : Nat) : Prop :=
 ∃ (ms : List Mv) (ns : List Nat), match mvs ms tm S nx with
   | some (tm1, S1, _) => resK E tm1 S1 rv fun ds => nodupB ns = true ∧ preB 0 k0 ns = true ∧ carR ns (oneRes ds) = some d ∧ carS ns S1 ns 0 = S'
   | none => False
def finQ (k0 : Nat) (rv : List ResultVar) (d : D) (S' : Store) : Ex → Tm → Store → Nat → Prop
 | .exit _, _, _, _ => False
 | .normal, tm, S, nx => finK E k0 rv d S' tm S nx
 | .ret, tm, S, nx => finK E k0 rv d S' tm S nx
end
end Go.Ab
namespace Go.Ab
open Go Go.RowKit
variable {P : Program}
theorem beq_no {n m : Nat} (h : ¬ n = m) : Nat.beq n m = false := by
 cases hb : Nat.beq n m
 · rfl
 · exact absurd (Nat.eq_of_beq_eq_true hb) h
theorem lk_cons {α : Type} (n : Nat) (a : α) (r : List (Nat × α)) (m : Nat) : lk ((n, a) :: r) m = if n = m then some a else lk r m := by
 by_cases h : n = m
 · subst h; simp [lk]
 · simp [lk, h, beq_no h]
theorem lk_mem {α : Type} {l : List (Nat × α)} {m : Nat} {a : α} (h : lk l m = some a) : (m, a) ∈ l := by
 induction l with
 | nil => simp [lk] at h
 | cons p l ih =>
   obtain ⟨n, x⟩ := p
   rw [lk_cons] at h
   by_cases hn : n = m
   · subst hn; simp at h; subst h; simp
   · rw [if_neg hn] at h; exact List.mem_cons_of_mem _ (ih h)
theorem lk_del {α : Type} (l : List (Nat × α)) (m t : Nat) : lk (del m l) t = if t = m then none else lk l t := by
 induction l with
 | nil => simp [del, lk]
 | cons p l ih =>
   obtain ⟨n, a⟩ := p
   simp only [del]
   by_cases hn : n = m
   · subst hn
     simp only [Nat.beq_refl, lk_cons, ih]
     by_cases ht : t = n
     · simp [ht]
     · simp [ht, Ne.symm ht]
   · have : Nat.beq n m = false := beq_no hn
     simp only [this, lk_cons, ih]
     by_cases ht : t = m
     · subst ht; simp [hn]
     · simp [ht]
theorem lk_map {α β : Type} (f : α → β) (l : List (Nat × α)) (m : Nat) : lk (l.map fun (t, d) => (t, f d)) m = (lk l m).map f := by
 induction l with
 | nil => rfl
 | cons p l ih =>
   obtain ⟨n, a⟩ := p
   simp only [List.map_cons, lk_cons, ih]
   by_cases h : n = m <;> simp [h]
theorem lk_ap (out : Out) (S : Store) (n : Nat) : lk (ap out S) n = match lk out n with | some o => o | none => lk S n := by
 induction out with
 | nil => simp [ap, lk]
 | cons p r ih =>
   obtain ⟨m, o⟩ := p
   rw [lk_cons]
   by_cases h : m = n
   · subst h
     cases o with
     | some b => simp [ap, lk_cons]
     | none => simp [ap, lk_del]
   · rw [if_neg h]
     cases o with
     | some b => simp only [ap, lk_cons, if_neg h, lk_del, if_neg (Ne.symm h)]; exact ih
     | none => simp only [ap, lk_del, if_neg (Ne.symm h)]; exact ih
theorem memB_iff {n : Nat} {l : List Nat} : memB n l = true ↔ n ∈ l := by
 induction l with
 | nil => simp [memB]
 | cons m r ih =>
   simp only [memB, Bool.or_eq_true, ih, List.mem_cons]
   constructor
   · rintro (h | h)
     · exact .inl (Nat.eq_of_beq_eq_true h).symm
     · exact .inr h
   · rintro (h | h)
     · subst h; exact .inl (Nat.beq_refl n)
     · exact .inr h
theorem nodupB_get {l : List Nat} (h : nodupB l = true) : ∀ (i j n : Nat), l[i]? = some n → l[j]? = some n → i = j := by
 induction l with
 | nil => simp
 | cons m r ih =>
   simp only [nodupB, Bool.and_eq_true] at h
   obtain ⟨h1, h2⟩ := h
   have hm : m ∉ r := fun hin => by simp [memB_iff.2 hin] at h1
   intro i j n hi hj
   cases i with
   | zero =>
     simp at hi
     subst hi
     cases j with
     | zero => rfl
     | succ j => exact absurd (List.mem_of_getElem? (by simpa using hj)) hm
   | succ i =>
     cases j with
     | zero =>
       simp at hj
       subst hj
       exact absurd (List.mem_of_getElem? (by simpa using hi)) hm
     | succ j => rw [ih h2 i j n (by simpa using hi) (by simpa using hj)]
theorem posOf_get : ∀ {ns : List Nat} {n i : Nat}, posOf ns n = some i → ns[i]? = some n
 | [], _, _, h => by simp [posOf] at h
 | m :: r, n, i, h => by
   simp only [posOf] at h
   split at h
   · rename_i hb
     cases h
     simp [Nat.eq_of_beq_eq_true hb]
   · split at h
     · rename_i j hj
       cases h
       simpa using posOf_get hj
     · cases h
theorem posOf_none : ∀ {ns : List Nat} {n : Nat}, posOf ns n = none → n ∉ ns
 | [], _, _ => by simp
 | m :: r, n, h => by
   simp only [posOf] at h
   split at h
   · cases h
   · rename_i hb
     split at h
     · cases h
     · rename_i hj
       have : m ≠ n := by rintro rfl; rw [Nat.beq_refl] at hb; cases hb
       simp [Ne.symm this, posOf_none hj]
theorem posAll_get : ∀ {ns l q : List Nat}, posAll ns l = some q → q.length = l.length ∧ ∀ (i n m : Nat), l[i]? = some n → q[i]? = some m → ns[m]? = some n
 | ns, [], q, h => by simp [posAll] at h; subst h; simp
 | ns, n :: r, q, h => by
   simp only [posAll] at h
   split at h
   · rename_i i hi
     split at h
     · rename_i q' hq
       cases h
       obtain ⟨h1, h2⟩ := posAll_get hq
       refine ⟨by simp [h1], fun j a m hj hm => ?_⟩
       cases j with
       | zero => simp at hj hm; subst hj hm; exact posOf_get hi
       | succ j => exact h2 j a m (by simpa using hj) (by simpa using hm)
     · cases h
   · cases h
theorem nmv_mono {ρ ρ' : Nat → Option Value} (hr : ∀ t u, ρ t = some u → ρ' t = some u) {t : Nat} {u : Value} (h : nmv ρ t = some u) : nmv ρ' t = some u := by
 unfold nmv at h ⊢
 rw [Option.map_eq_some_iff] at h ⊢
 obtain ⟨g, hg, e⟩ := h
 exact ⟨g, hr _ _ hg, e⟩
theorem Kp.refl (u : Value) : Kp u u := .inl rfl
theorem tup_cons {x y : Value} {vs us : List Value} (h : Value.tuple (x :: vs).toArray = .tuple (y :: us).toArray) : x = y := by
 injection h with h
 have := congrArg Array.toList h
 simp at this
 exact this.1
theorem Kp.trans {a b c : Value} (h : Kp a b) (g : Kp b c) : Kp a c := by
 rcases h with rfl | ⟨x, vs, vs', rfl, rfl⟩
 · exact g
 · rcases g with rfl | ⟨y, us, us', h1, rfl⟩
   · exact .inr ⟨x, vs, vs', rfl, rfl⟩
   · obtain rfl := tup_cons h1
     exact .inr ⟨x, vs, us', rfl, rfl⟩
theorem Kp.top {a b : Value} (h : Kp a b) : Go.Ab.top b = Go.Ab.top a := by
 rcases h with rfl | ⟨x, vs, vs', rfl, rfl⟩ <;> rfl
theorem Kp.pointer {a : Option Addr} {b : Value} (h : Kp (.pointer a) b) : b = .pointer a := by
 rcases h with h | ⟨x, vs, vs', h, _⟩
 · exact h
 · cases h
theorem Kp.slice {a : Option Addr} {n c : Nat} {b : Value} (h : Kp (.slice a n c) b) : b = .slice a n c := by
 rcases h with h | ⟨x, vs, vs', h, _⟩
 · exact h
 · cases h
theorem nmv_monoK {ρ ρ' : Nat → Option Value} (hr : ∀ t u, ρ t = some u → ∃ u', ρ' t = some u' ∧ Kp u u') {t : Nat} {u : Value} (h : nmv ρ t = some u) : nmv ρ' t = some u := by
 unfold nmv at h ⊢
 rw [Option.map_eq_some_iff] at h ⊢
 obtain ⟨g, hg, e⟩ := h
 obtain ⟨g', h1, h2⟩ := hr _ _ hg
 exact ⟨g', h1, by rw [h2.top, e]⟩
theorem nmv_of {ρ : Nat → Option Value} {t : Nat} {u : Value} (h : ρ t = some u) (ht : top u = u) : nmv ρ t = some u := by
 unfold nmv
 rw [h, Option.map_some, ht]
theorem nmv_eq {ρ ρ' : Nat → Option Value} {t t' : Nat} (h : ρ t = ρ' t') : nmv ρ t = nmv ρ' t' := by unfold nmv; rw [h]
theorem nmv_named {ρ : Nat → Option Value} {t : Nat} {u : Value} (h : nmv ρ t = some u) : ∃ g, ρ t = some g := by
 unfold nmv at h
 rw [Option.map_eq_some_iff] at h
 obtain ⟨g, hg, _⟩ := h
 exact ⟨g, hg⟩
theorem nmv_tuple {ρ : Nat → Option Value} {t : Nat} {u : Value} {vs : List Value} (h : ρ t = some (.tuple (u :: vs).toArray)) : nmv ρ t = some u := by
 unfold nmv
 rw [h, Option.map_some]
 rfl
theorem top_row {w : World} {base : Nat} {e : TypeId} {sz : Nat} {u : Value} {n : Nat} {us : List Value} (h : w.ownsRow base e sz u n us) : top u = u := by
 rcases h.2 with ⟨rfl, _⟩ | ⟨g, cap, cur, rfl, _⟩ <;> rfl
theorem one_row {w : World} {base : Nat} {e : TypeId} {sz : Nat} {u : Value} {n : Nat} {us : List Value} (h : w.ownsRow base e sz u n us) : u.oneCell' = true := by
 rcases h.2 with ⟨rfl, _⟩ | ⟨g, cap, cur, rfl, _⟩ <;> rfl
theorem VI.one {w : World} {Av : Nat → Prop} {d : D} {u : Value} (h : VI w Av d u) (hd : ∀ ds, d ≠ .agg ds) : u.oneCell' = true := by
 cases h <;> first | rfl | assumption | (exact absurd rfl (hd _))
theorem add_block (a : Addr) (n : Nat) : (a.add n).block = a.block := by unfold Addr.add; split <;> rfl
theorem ne_nil_of_get {α : Type} {l : List α} {i : Nat} {a : α} (h : l[i]? = some a) : l ≠ [] := by
 rintro rfl
 simp at h
theorem VI.mono {w w' : World} {Av Av' : Nat → Prop} (hk : ∀ b, b < w.heap.size → ¬ Av b → w'.heap[b]? = w.heap[b]?) (hz : w.heap.size ≤ w'.heap.size)
   (ha : ∀ b, b < w.heap.size → Av' b → Av b) {d : D} {u : Value} (h : VI w Av d u) : VI w' Av' d u := by
 induction h with
 | b x => exact .b x
 | k kd n => exact .k kd n
 | s l => exact .s l
 | v h => exact .v h
 | fn f => exact .fn f
 | nil => exact .nil
 | sl0 => exact .sl0
 | sl U hn hnc hc hb hav hsz hcell h1 _ ih =>
   refine .sl U hn hnc hc (fun hx => Nat.lt_of_lt_of_le (hb hx) hz) (fun hx h => hav hx (ha _ (hb hx) h)) hsz (fun i j cs d h h' => ?_) h1 ih
   have hx := ne_nil_of_get h
   rw [World.cell?_of_block (w := w) (by rw [add_block]; exact hk _ (hb hx) (hav hx))]
   exact hcell i j cs d h h'
 | ep U hb hav hcell h1 _ ih =>
   refine .ep U (by omega) (fun h => hav (ha _ hb h)) (fun j d h => ?_) h1 ih
   rw [World.cell?_of_block (w := w) (by rw [add_block]; exact hk _ hb hav)]
   exact hcell j d h
 | agg hl h1 _ ih => exact .agg hl h1 ih
section
variable {w w' : World} {Av Av' : Nat → Prop} {ρ ρ' : Nat → Option Value}
theorem VA.mono (hi : ∀ d u, VI w Av d u → VI w' Av' d u) (hr : ∀ t u, ρ t = some u → ρ' t = some u) {d : D} {u : Value} (h : VA w Av ρ d u) : VA w' Av' ρ' d u := by
 cases h with
 | im h => exact .im (hi _ _ h)
 | own h h1 => exact .own (nmv_mono hr h) h1
 | bp h => exact .bp (hr _ _ h)
 | op h => exact .op (nmv_mono hr h)
 | fn hl h => exact .fn hl fun i n u a b => let ⟨h1, h2⟩ := h i n u a b; ⟨hr _ _ h1, h2⟩
 | vw h h1 h2 h3 h4 => exact .vw (hr _ _ h) h1 h2 h3 h4
 | junk h1 => exact .junk h1
theorem VG.mono (hi : ∀ d u, VI w Av d u → VI w' Av' d u) (hr : ∀ t u, ρ t = some u → ρ' t = some u) {d : D} {u : Value} (h : VG w Av ρ d u) : VG w' Av' ρ' d u := by
 cases h with
 | atom h => exact .atom (h.mono hi hr)
 | agg hl h1 h => exact .agg hl h1 fun i d u a b => (h i d u a b).mono hi hr
theorem VR.mono (hi : ∀ d u, VI w Av d u → VI w' Av' d u) (hr : ∀ t u, ρ t = some u → ρ' t = some u) {d : D} {u : Value} (h : VR w Av ρ d u) : VR w' Av' ρ' d u := by
 cases h with
 | gr h => exact .gr (h.mono hi hr)
 | tup hl h => exact .tup hl fun i d u a b => (h i d u a b).mono hi hr
theorem VA.monoK (hi : ∀ d u, VI w Av d u → VI w' Av' d u) (hr : ∀ t u, ρ t = some u → ∃ u', ρ' t = some u' ∧ Kp u u') {d : D} {u : Value} (h : VA w Av ρ d u) : VA w' Av' ρ' d u := by
 cases h with
 | im h => exact .im (hi _ _ h)
 | own h h1 => exact .own (nmv_monoK hr h) h1
 | bp h =>
   obtain ⟨u', h1, h2⟩ := hr _ _ h
   exact .bp (by rw [h1, h2.pointer])
 | op h => exact .op (nmv_monoK hr h)
 | fn hl h =>
   refine .fn hl fun i n u a b => ?_
   obtain ⟨h1, b', rfl⟩ := h i n u a b
   obtain ⟨u', h3, h4⟩ := hr _ _ h1
   exact ⟨by rw [h3, h4.pointer], b', rfl⟩
 | vw h h1 h2 h3 h4 =>
   obtain ⟨u', g1, g2⟩ := hr _ _ h
   exact .vw (by rw [g1, g2.slice]) h1 h2 h3 h4
 | junk h1 => exact .junk h1
theorem VG.monoK (hi : ∀ d u, VI w Av d u → VI w' Av' d u) (hr : ∀ t u, ρ t = some u → ∃ u', ρ' t = some u' ∧ Kp u u') {d : D} {u : Value} (h : VG w Av ρ d u) : VG w' Av' ρ' d u := by
 cases h with
 | atom h => exact .atom (h.monoK hi hr)
 | agg hl h1 h => exact .agg hl h1 fun i d u a b => (h i d u a b).monoK hi hr
theorem VR.monoK (hi : ∀ d u, VI w Av d u → VI w' Av' d u) (hr : ∀ t u, ρ t = some u → ∃ u', ρ' t = some u' ∧ Kp u u') {d : D} {u : Value} (h : VR w Av ρ d u) : VR w' Av' ρ' d u := by
 cases h with
 | gr h => exact .gr (h.monoK hi hr)
 | tup hl h => exact .tup hl fun i d u a b => (h i d u a b).monoK hi hr
theorem VA.one {d : D} {u : Value} (h : VA w Av ρ d u) (hd : ∀ ds, d ≠ .agg ds) : u.oneCell' = true := by
 cases h with
 | im h => exact h.one hd
 | own h h1 => exact h1
 | bp h => rfl
 | op h => rfl
 | fn => rfl
 | vw => rfl
 | junk h1 => exact h1
theorem VI.noImm {d : D} {u : Value} (h : VI w Av d u) (hn : NoImmA d) : VI w' Av' d u := by
 cases h with
 | b x => exact .b x
 | k kd n => exact .k kd n
 | s l => exact .s l
 | v h => exact .v h
 | fn f => exact .fn f
 | nil => exact .nil
 | sl0 => exact .sl0
 | sl => exact hn.elim
 | ep => exact hn.elim
 | agg => exact hn.elim
end
end Go.Ab
namespace Go.Ab
open Go Go.RowKit
theorem Fr.refl (F : Nat → Prop) (w : World) : Fr F w w := ⟨rfl, rfl, rfl, Nat.le_refl _, fun _ _ _ => rfl⟩
theorem Fr.trans {F F' : Nat → Prop} {a b c : World} (h : Fr F a b) (k : Fr F' b c) (hF : ∀ x, x < a.heap.size → F' x → F x) : Fr F a c :=
 ⟨k.os.trans h.os, k.tape.trans h.tape, k.output.trans h.output, Nat.le_trans h.size k.size,
  fun i hi hn => (k.block i (Nat.lt_of_lt_of_le hi h.size) (fun hf => hn (hF i hi hf))).trans (h.block i hi hn)⟩
theorem Fr.weaken {F F' : Nat → Prop} {a b : World} (h : Fr F a b) (hF : ∀ x, F x → F' x) : Fr F' a b :=
 ⟨h.os, h.tape, h.output, h.size, fun k hk hn => h.block k hk fun hf => hn (hF k hf)⟩
section
variable {P : Program}
theorem SR.named {w : World} {Av : Nat → Prop} {ρ : Nat → Option Value} {t : Nat} {b : Blk} (h : SR P w Av ρ t b) : ∃ u, ρ t = some u := by
 cases b with
 | box e cs => obtain ⟨_, _, h, _⟩ := h; exact ⟨_, h⟩
 | own e xs => obtain ⟨_, _, h, _⟩ := h; exact ⟨_, h⟩
 | row e xs => obtain ⟨_, _, h, _⟩ := h; exact ⟨_, h⟩
 | fr xs => obtain ⟨_, h, _⟩ := h; exact nmv_named h
 | deep e e2 zs => obtain ⟨_, _, _, h⟩ := h; exact ⟨_, h.name⟩
theorem row_lt0 {w : World} {e : TypeId} {sz : Nat} {u : Value} {n : Nat} {us : List Value} (h : w.ownsRow 0 e sz u n us) {x : Nat} (hx : blkOf u = some x) : x < w.heap.size := by
 rcases h.2 with ⟨rfl, _⟩ | ⟨g, cap, cur, rfl, _, hh, _⟩
 · simp [blkOf] at hx
 · simp [blkOf] at hx
   subst hx
   exact (Array.getElem?_eq_some_iff.1 hh).1
theorem tup_inj {u u' : Value} {vs vs' : List Value} {o : Option Value} (h : o = some (.tuple (u :: vs).toArray)) (h' : o = some (.tuple (u' :: vs').toArray)) : u = u' ∧ vs = vs' := by
 rw [h] at h'
 simpa using h'
theorem DeepOk.bk {P : Program} {w : World} {Av : Nat → Prop} {ρ : Nat → Option Value} {t : Nat} {e e2 : TypeId} {zs : List Slot} {u : Value} {vs us : List Value} (h : DeepOk P w Av ρ t e e2 zs u vs us) {x : Nat} :
   Go.Ab.bk (.deep e e2 zs) (ρ t) x ↔ (blkOf u = some x ∨ ∃ (i : Nat) (xs : List (List D)) (v : Value), zs[i]? = some (.an xs) ∧ vs[i]? = some v ∧ blkOf v = some x) := by
 constructor
 · rintro ⟨u', vs', h1, h2⟩
   obtain ⟨rfl, rfl⟩ := tup_inj h.name h1
   exact h2
 · intro h2
   exact ⟨u, vs, h.name, h2⟩
theorem DeepOk.us_at {P : Program} {w : World} {Av : Nat → Prop} {ρ : Nat → Option Value} {t : Nat} {e e2 : TypeId} {zs : List Slot} {u : Value} {vs us : List Value} (h : DeepOk P w Av ρ t e e2 zs u vs us) {i : Nat} {z : Slot} (hz : zs[i]? = some z) :
   ∃ x v, us[i]? = some x ∧ vs[i]? = some v ∧ SlotOk P w Av ρ e2 z x v := by
 have hi := (List.getElem?_eq_some_iff.1 hz).1
 have h1 : us[i]? = some (us[i]'(by rw [h.lu]; exact hi)) := List.getElem?_eq_getElem _
 have h2 : vs[i]? = some (vs[i]'(by rw [h.lv]; exact hi)) := List.getElem?_eq_getElem _
 exact ⟨_, _, h1, h2, h.slot i z _ _ hz h1 h2⟩
theorem SR.lt {w : World} {Av : Nat → Prop} {ρ : Nat → Option Value} {t : Nat} {b : Blk} (h : SR P w Av ρ t b) (hlv : live b = true) {x : Nat} (hx : bk b (ρ t) x) : x < w.heap.size := by
 have row : ∀ (e : TypeId) (u : Value) (us : List Value) (n : Nat), ρ t = some u → w.ownsRow 0 e (P.cellsOf e) u n us → (ρ t).bind blkOf = some x → x < w.heap.size := by
  intro e u us n hr ho hx
  rw [hr] at hx
  exact row_lt0 ho (by simpa using hx)
 cases b with
 | box e cs =>
   obtain ⟨g, us, hr, hh, _⟩ := h
   rw [hr] at hx
   simp [bk, blkOf] at hx
   subst hx
   exact (Array.getElem?_eq_some_iff.1 hh).1
 | own e xs => obtain ⟨u, us, hr, ho, _⟩ := h; exact row e u us _ hr ho hx
 | row e xs => obtain ⟨u, us, hr, ho, _⟩ := h; exact row e u us _ hr ho hx
 | fr xs => simp [live] at hlv
 | deep e e2 zs =>
   obtain ⟨u, vs, us, h⟩ := h
   rcases h.bk.1 hx with h1 | ⟨i, xs, v, h1, h2, h3⟩
   · exact row_lt0 h.own h1
   · obtain ⟨x', v', _, g2, _, _, g4, _⟩ := h.us_at h1
     rw [h2] at g2
     cases g2
     exact row_lt0 g4 h3
theorem Rows.mono {p q : D → Value → Prop} (h : ∀ d u, p d u → q d u) {sz : Nat} {xs : List (List D)} {us : List Value} (k : Rows p sz xs us) : Rows q sz xs us :=
 ⟨k.len, k.el, k.one, fun i j cs d a b => let ⟨u, e1, e2⟩ := k.at_ i j cs d a b; ⟨u, e1, h _ _ e2⟩⟩
theorem ownsRow_kept {w w' : World} {e : TypeId} {sz : Nat} {u : Value} {n : Nat} {us : List Value} (h : w.ownsRow 0 e sz u n us) (hb : ∀ x, blkOf u = some x → w'.heap[x]? = w.heap[x]?) : w'.ownsRow 0 e sz u n us := by
 refine ⟨h.1, ?_⟩
 rcases h.2 with hn | ⟨g, cap, cur, rfl, hb0, hh, rest⟩
 · exact .inl hn
 · refine .inr ⟨g, cap, cur, rfl, hb0, ?_, rest⟩
   rw [hb g rfl]
   exact hh
theorem SR.mono {w w' : World} {Av Av' : Nat → Prop} {ρ ρ' : Nat → Option Value} {t : Nat} {b : Blk} (hi : ∀ d u, VI w Av d u → VI w' Av' d u) (hr : ∀ t u, ρ t = some u → ρ' t = some u)
   (hb : live b = true → ∀ x, bk b (ρ t) x → w'.heap[x]? = w.heap[x]?) (h : SR P w Av ρ t b) : SR P w' Av' ρ' t b := by
 cases b with
 | box e cs =>
   obtain ⟨g, us, h0, hh, hl, h1, hc⟩ := h
   refine ⟨g, us, hr _ _ h0, ?_, hl, h1, fun i d u a b => (hc i d u a b).mono hi hr⟩
   rw [hb rfl g (by rw [h0]; rfl)]
   exact hh
 | own e xs =>
   obtain ⟨u, us, h0, ho, hc⟩ := h
   exact ⟨u, us, hr _ _ h0, ownsRow_kept ho fun x hx => hb rfl x (by rw [h0]; exact hx), hc.mono hi⟩
 | row e xs =>
   obtain ⟨u, us, h0, ho, hc⟩ := h
   exact ⟨u, us, hr _ _ h0, ownsRow_kept ho fun x hx => hb rfl x (by rw [h0]; exact hx), hc.mono fun _ _ h => h.mono hi hr⟩
 | fr xs =>
   obtain ⟨u, h0, hv⟩ := h
   exact ⟨u, nmv_mono hr h0, hi _ _ hv⟩
 | deep e e2 zs =>
   obtain ⟨u, vs, us, h⟩ := h
   refine ⟨u, vs, us, hr _ _ h.name, h.lv, h.lu, ownsRow_kept h.own fun x hx => hb rfl x (h.bk.2 (.inl hx)), h.one, fun i z x v h1 h2 h3 => ?_, h.apart, h.dis⟩
   have := h.slot i z x v h1 h2 h3
   cases z with
   | an xs =>
     obtain ⟨e1, ys, e2, e3⟩ := this
     exact ⟨e1, ys, ownsRow_kept e2 fun x hx => hb rfl x (h.bk.2 (.inr ⟨i, xs, v, h1, h3, hx⟩)), e3.mono hi⟩
   | nm a => exact nmv_mono hr this
   | lost => trivial
theorem SR.monoK {w w' : World} {Av Av' : Nat → Prop} {ρ ρ' : Nat → Option Value} {t : Nat} {b : Blk} (hi : ∀ d u, VI w Av d u → VI w' Av' d u) (hr : ∀ t u, ρ t = some u → ∃ u', ρ' t = some u' ∧ Kp u u') (he : ∀ u, ρ t = some u → ρ' t = some u)
   (hb : live b = true → ∀ x, bk b (ρ t) x → w'.heap[x]? = w.heap[x]?) (h : SR P w Av ρ t b) : SR P w' Av' ρ' t b := by
 cases b with
 | box e cs =>
   obtain ⟨g, us, h0, hh, hl, h1, hc⟩ := h
   refine ⟨g, us, he _ h0, ?_, hl, h1, fun i d u a b => (hc i d u a b).monoK hi hr⟩
   rw [hb rfl g (by rw [h0]; rfl)]
   exact hh
 | own e xs =>
   obtain ⟨u, us, h0, ho, hc⟩ := h
   exact ⟨u, us, he _ h0, ownsRow_kept ho fun x hx => hb rfl x (by rw [h0]; exact hx), hc.mono hi⟩
 | row e xs =>
   obtain ⟨u, us, h0, ho, hc⟩ := h
   exact ⟨u, us, he _ h0, ownsRow_kept ho fun x hx => hb rfl x (by rw [h0]; exact hx), hc.mono fun _ _ h => h.monoK hi hr⟩
 | fr xs =>
   obtain ⟨u, h0, hv⟩ := h
   exact ⟨u, nmv_monoK hr h0, hi _ _ hv⟩
 | deep e e2 zs =>
   obtain ⟨u, vs, us, h⟩ := h
   refine ⟨u, vs, us, he _ h.name, h.lv, h.lu, ownsRow_kept h.own fun x hx => hb rfl x (h.bk.2 (.inl hx)), h.one, fun i z x v h1 h2 h3 => ?_, h.apart, h.dis⟩
   have := h.slot i z x v h1 h2 h3
   cases z with
   | an xs =>
     obtain ⟨e1, ys, e2, e3⟩ := this
     exact ⟨e1, ys, ownsRow_kept e2 fun x hx => hb rfl x (h.bk.2 (.inr ⟨i, xs, v, h1, h3, hx⟩)), e3.mono hi⟩
   | nm a => exact nmv_monoK hr this
   | lost => trivial
end
theorem VI_ofV {w : World} {Av : Nat → Prop} {x : Value} {d : D} (h : ofV x = some d) : VI w Av d x := by
 unfold ofV at h
 split at h <;> try (cases h; done)
 · cases h; exact .b _
 · cases h; exact .k _ _
 · rename_i s
   cases h
   have : s = ⟨s.data.toList.toArray⟩ := by cases s; simp
   rw [this]
   exact .s _
 · cases h; exact .nil
 · cases h; exact .v rfl
section
variable {E : Env} {cx : Cx} {tm : Tm} {S : Store} {a : Act} {w : World} {ρ : Nat → Option Value}
theorem R.eval (h : R E cx tm S a w ρ) {x : Operand} {d : D} (hx : ev E.gl tm x = some d) : VR w (AvS cx.G S ρ) ρ d (a.eval x) := by
 cases x with
 | tmp t => exact h.tm t d hx
 | const v => exact .gr (.atom (.im (VI_ofV hx)))
 | func f => simp only [ev, Option.some.injEq] at hx; subst hx; exact .gr (.atom (.im (.fn f)))
 | global g =>
   simp only [ev] at hx
   split at hx
   · rename_i cs hg
     cases hx
     exact .gr (.atom (.im (h.gl g cs hg)))
   · cases hx
theorem R.held_lt (h : R E cx tm S a w ρ) {x : Nat} (hx : Held S ρ x) : x < w.heap.size := by
 obtain ⟨t, b, hl, hv, hb⟩ := hx
 exact (h.st t b hl).lt hv hb
theorem R.named (h : R E cx tm S a w ρ) {n : Nat} {b : Blk} (hl : lk S n = some b) : ∃ u, ρ n = some u := (h.st n b hl).named
theorem held_ext {S S' : Store} (h : ∀ n, lk S' n = lk S n) {x : Nat} : Held S' ρ x ↔ Held S ρ x := by
 constructor <;> rintro ⟨t, b, h1, h2, h3⟩
 · exact ⟨t, b, by rw [← h]; exact h1, h2, h3⟩
 · exact ⟨t, b, by rw [h]; exact h1, h2, h3⟩
theorem avs_ext {G : Nat → Prop} {S S' : Store} (h : ∀ n, lk S' n = lk S n) : AvS G S' ρ = AvS G S ρ := by
 funext x
 simp only [AvS, held_ext h]
theorem R.ext (h : R E cx tm S a w ρ) {tm' : Tm} {S' : Store} (ht : ∀ t, lk tm' t = lk tm t) (hs : ∀ n, lk S' n = lk S n) : R E cx tm' S' a w ρ := by
 refine ⟨fun t d hd => ?_, fun t b hl => ?_, fun t t' b b' x h1 h2 => ?_, fun x hx => h.new x ((held_ext hs).1 hx), h.keep, ?_, h.fr, h.g, h.gf, h.defers, h.num⟩
 · rw [avs_ext hs]; exact h.tm t d (by rw [← ht]; exact hd)
 · rw [avs_ext hs]; exact h.st t b (by rw [← hs]; exact hl)
 · rw [hs] at h1 h2; exact h.dis t t' b b' x h1 h2
 · rw [avs_ext hs]; exact h.gl
theorem put_size (a : Act) (dst : Option Nat) (v : Value) : (a.put dst v).tmps.size = a.tmps.size := by
 cases dst <;> simp [Act.put]
theorem put_defers (a : Act) (dst : Option Nat) (v : Value) : (a.put dst v).defers = a.defers := by
 cases dst <;> simp [Act.put]
theorem getD_put (a : Act) (t t' : Nat) (v : Value) (ht : t < a.tmps.size) : (a.put (some t) v).tmps.getD t' undef = if t' = t then v else a.tmps.getD t' undef := by
 simp only [Act.put, Array.getD_eq_getD_getElem?, Array.getElem?_setIfInBounds]
 by_cases h : t = t'
 · subst h; simp [ht]
 · simp [h, Ne.symm h]
theorem R.value (h : R E cx tm S a w ρ) {dst : Option Nat} (hd : ∀ t, dst = some t → t < cx.N) {d : D} {v : Value} (hv : VR w (AvS cx.G S ρ) ρ d v) :
   R E cx (put dst d tm) S (a.put dst v) w ρ := by
 refine ⟨fun t d' ht => ?_, h.st, h.dis, h.new, h.keep, h.gl, h.fr, h.g, h.gf, by rw [put_defers]; exact h.defers, by rw [put_size]; exact h.num⟩
 cases dst with
 | none => exact h.tm t d' ht
 | some t0 =>
   have hlt : t0 < a.tmps.size := by rw [h.num]; exact hd t0 rfl
   rw [getD_put a t0 t v hlt]
   simp only [put, lk_cons] at ht
   by_cases e : t0 = t
   · subst e
     simp at ht
     subst ht
     simpa using hv
   · rw [if_neg e] at ht
     rw [if_neg (Ne.symm e)]
     exact h.tm t d' ht
structure Turn (E : Env) (cx : Cx) (S : Store) (w : World) (ρ : Nat → Option Value) (out : Out) (w' : World) (ρ' : Nat → Option Value) : Prop where
 fr : Fr (fun x => ∃ n b, lk out n ≠ none ∧ lk S n = some b ∧ live b = true ∧ bk b (ρ n) x) w w'
 old : ∀ t u, ρ t = some u → ρ' t = some u
 blk : ∀ n b, lk out n = some (some b) → live b = true → ∀ x, bk b (ρ' n) x → w.heap.size ≤ x ∨ ∃ m b', lk out m ≠ none ∧ lk S m = some b' ∧ live b' = true ∧ bk b' (ρ m) x
 dis : ∀ n m b c x, lk out n = some (some b) → lk out m = some (some c) → live b = true → live c = true → bk b (ρ' n) x → bk c (ρ' m) x → n = m
 st : (∀ d u, VI w (AvS cx.G S ρ) d u → VI w' (AvS cx.G (ap out S) ρ') d u) → ∀ n b, lk out n = some (some b) → SR E.P w' (AvS cx.G (ap out S) ρ') ρ' n b
theorem Turn.held (h : R E cx tm S a w ρ) {out : Out} {w' : World} {ρ' : Nat → Option Value} (k : Turn E cx S w ρ out w' ρ') {x : Nat} (hx : Held (ap out S) ρ' x) : w.heap.size ≤ x ∨ Held S ρ x := by
 obtain ⟨t, b, hl, hv, hb⟩ := hx
 rw [lk_ap] at hl
 split at hl
 · rename_i o ho
   subst hl
   rcases k.blk t b ho hv x hb with h1 | ⟨m, b', _, h2, h3, h4⟩
   · exact .inl h1
   · exact .inr ⟨m, b', h2, h3, h4⟩
 · obtain ⟨u, hu⟩ := h.named hl
   rw [k.old t u hu] at hb
   exact .inr ⟨t, b, hl, hv, by rw [hu]; exact hb⟩
theorem Turn.vi (h : R E cx tm S a w ρ) {out : Out} {w' : World} {ρ' : Nat → Option Value} (k : Turn E cx S w ρ out w' ρ') : ∀ d u, VI w (AvS cx.G S ρ) d u → VI w' (AvS cx.G (ap out S) ρ') d u := by
 intro d u hv
 refine hv.mono (fun b hb hav => k.fr.block b hb ?_) k.fr.size fun x hx hav => ?_
 · rintro ⟨n, c, _, h2, h3, h4⟩
   exact hav (.inr ⟨n, c, h2, h3, h4⟩)
 · rcases hav with hg | hh
   · exact .inl hg
   · rcases k.held h hh with h1 | h1
     · omega
     · exact .inr h1
theorem R.turn (h : R E cx tm S a w ρ) {out : Out} {w' : World} {ρ' : Nat → Option Value} (k : Turn E cx S w ρ out w' ρ') : R E cx tm (ap out S) a w' ρ' := by
 have hi := k.vi h
 refine ⟨fun t d ht => (h.tm t d ht).mono hi k.old, fun t b hl => ?_, fun t t' b b' x h1 h2 l1 l2 x1 x2 => ?_, fun x hx => ?_, fun t u ht hu => let ⟨u', h1, h2⟩ := h.keep t u ht hu; ⟨u', k.old _ _ h1, h2⟩, fun g cs hg => hi _ _ (h.gl g cs hg), ?_, h.g, h.gf, h.defers, h.num⟩
 · rw [lk_ap] at hl
   split at hl
   · rename_i o ho
     subst hl
     exact k.st hi t b ho
   · rename_i hn
     refine (h.st t b hl).mono hi k.old fun hlv x hx => k.fr.block x ((h.st t b hl).lt hlv hx) ?_
     rintro ⟨n, c, e1, e2, e3, e4⟩
     have := h.dis t n b c x hl e2 hlv e3 hx e4
     subst this
     exact e1 hn
 · rw [lk_ap] at h1 h2
   have old : ∀ (s : Nat) (c : Blk) (y : Nat), lk out s = none → lk S s = some c → bk c (ρ' s) y → bk c (ρ s) y := by
    intro s c y _ hs hy
    obtain ⟨u, hu⟩ := h.named hs
    rw [k.old s u hu] at hy
    rw [hu]; exact hy
   have mix : ∀ (s s' : Nat) (c c' : Blk), lk out s = some (some c) → live c = true → bk c (ρ' s) x → lk out s' = none → lk S s' = some c' → live c' = true → bk c' (ρ' s') x → False := by
    intro s s' c c' a1 a2 a3 b1 b2 b3 b4
    have b5 := old s' c' x b1 b2 b4
    rcases k.blk s c a1 a2 x a3 with q | ⟨m, d, q1, q2, q3, q4⟩
    · have := (h.st s' c' b2).lt b3 b5; omega
    · have := h.dis m s' d c' x q2 b2 q3 b3 q4 b5
      subst this
      exact q1 b1
   cases ho : lk out t with
   | none =>
     rw [ho] at h1
     cases ho' : lk out t' with
     | none => rw [ho'] at h2; exact h.dis t t' b b' x h1 h2 l1 l2 (old t b x ho h1 x1) (old t' b' x ho' h2 x2)
     | some o => rw [ho'] at h2; simp only at h2; subst h2; exact (mix t' t b' b ho' l2 x2 ho h1 l1 x1).elim
   | some o =>
     rw [ho] at h1; simp only at h1; subst h1
     cases ho' : lk out t' with
     | none => rw [ho'] at h2; exact (mix t t' b b' ho l1 x1 ho' h2 l2 x2).elim
     | some o => rw [ho'] at h2; simp only at h2; subst h2; exact k.dis t t' b b' x ho ho' l1 l2 x1 x2
 · rcases k.held h hx with h1 | h1
   · exact .inl (Nat.le_trans h.fr.size h1)
   · exact h.new x h1
 · refine h.fr.trans k.fr fun x hx hh => ?_
   obtain ⟨n, b, _, h2, h3, h4⟩ := hh
   rcases h.new x ⟨n, b, h2, h3, h4⟩ with h1 | h1
   · omega
   · exact h1
structure TurnK (E : Env) (cx : Cx) (S : Store) (w : World) (ρ : Nat → Option Value) (out : Out) (w' : World) (ρ' : Nat → Option Value) : Prop where
 fr : Fr (fun x => ∃ n b, lk out n ≠ none ∧ lk S n = some b ∧ live b = true ∧ bk b (ρ n) x) w w'
 old : ∀ t u, ρ t = some u → ∃ u', ρ' t = some u' ∧ Kp u u'
 same : ∀ t u, lk out t = none → ρ t = some u → ρ' t = some u
 blk : ∀ n b, lk out n = some (some b) → live b = true → ∀ x, bk b (ρ' n) x → w.heap.size ≤ x ∨ ∃ m b', lk out m ≠ none ∧ lk S m = some b' ∧ live b' = true ∧ bk b' (ρ m) x
 dis : ∀ n m b c x, lk out n = some (some b) → lk out m = some (some c) → live b = true → live c = true → bk b (ρ' n) x → bk c (ρ' m) x → n = m
 st : (∀ d u, VI w (AvS cx.G S ρ) d u → VI w' (AvS cx.G (ap out S) ρ') d u) → ∀ n b, lk out n = some (some b) → SR E.P w' (AvS cx.G (ap out S) ρ') ρ' n b
theorem TurnK.held (h : R E cx tm S a w ρ) {out : Out} {w' : World} {ρ' : Nat → Option Value} (k : TurnK E cx S w ρ out w' ρ') {x : Nat} (hx : Held (ap out S) ρ' x) : w.heap.size ≤ x ∨ Held S ρ x := by
 obtain ⟨t, b, hl, hv, hb⟩ := hx
 rw [lk_ap] at hl
 split at hl
 · rename_i o ho
   subst hl
   rcases k.blk t b ho hv x hb with h1 | ⟨m, b', _, h2, h3, h4⟩
   · exact .inl h1
   · exact .inr ⟨m, b', h2, h3, h4⟩
 · rename_i ho
   obtain ⟨u, hu⟩ := h.named hl
   rw [k.same t u ho hu] at hb
   exact .inr ⟨t, b, hl, hv, by rw [hu]; exact hb⟩
theorem TurnK.vi (h : R E cx tm S a w ρ) {out : Out} {w' : World} {ρ' : Nat → Option Value} (k : TurnK E cx S w ρ out w' ρ') : ∀ d u, VI w (AvS cx.G S ρ) d u → VI w' (AvS cx.G (ap out S) ρ') d u := by
 intro d u hv
 refine hv.mono (fun b hb hav => k.fr.block b hb ?_) k.fr.size fun x hx hav => ?_
 · rintro ⟨n, c, _, h2, h3, h4⟩
   exact hav (.inr ⟨n, c, h2, h3, h4⟩)
 · rcases hav with hg | hh
   · exact .inl hg
   · rcases k.held h hh with h1 | h1
     · omega
     · exact .inr h1
theorem R.turnK (h : R E cx tm S a w ρ) {out : Out} {w' : World} {ρ' : Nat → Option Value} (k : TurnK E cx S w ρ out w' ρ') : R E cx tm (ap out S) a w' ρ' := by
 have hi := k.vi h
 refine ⟨fun t d ht => (h.tm t d ht).monoK hi k.old, fun t b hl => ?_, fun t t' b b' x h1 h2 l1 l2 x1 x2 => ?_, fun x hx => ?_, fun t u ht hu => let ⟨u', h1, h2⟩ := h.keep t u ht hu; let ⟨u'', h3, h4⟩ := k.old _ _ h1; ⟨u'', h3, h2.trans h4⟩, fun g cs hg => hi _ _ (h.gl g cs hg), ?_, h.g, h.gf, h.defers, h.num⟩
 · rw [lk_ap] at hl
   split at hl
   · rename_i o ho
     subst hl
     exact k.st hi t b ho
   · rename_i hn
     refine (h.st t b hl).monoK hi k.old (fun u hu => k.same t u hn hu) fun hlv x hx => k.fr.block x ((h.st t b hl).lt hlv hx) ?_
     rintro ⟨n, c, e1, e2, e3, e4⟩
     have := h.dis t n b c x hl e2 hlv e3 hx e4
     subst this
     exact e1 hn
 · rw [lk_ap] at h1 h2
   have old : ∀ (s : Nat) (c : Blk) (y : Nat), lk out s = none → lk S s = some c → bk c (ρ' s) y → bk c (ρ s) y := by
    intro s c y hso hs hy
    obtain ⟨u, hu⟩ := h.named hs
    rw [k.same s u hso hu] at hy
    rw [hu]; exact hy
   have mix : ∀ (s s' : Nat) (c c' : Blk), lk out s = some (some c) → live c = true → bk c (ρ' s) x → lk out s' = none → lk S s' = some c' → live c' = true → bk c' (ρ' s') x → False := by
    intro s s' c c' a1 a2 a3 b1 b2 b3 b4
    have b5 := old s' c' x b1 b2 b4
    rcases k.blk s c a1 a2 x a3 with q | ⟨m, d, q1, q2, q3, q4⟩
    · have := (h.st s' c' b2).lt b3 b5; omega
    · have := h.dis m s' d c' x q2 b2 q3 b3 q4 b5
      subst this
      exact q1 b1
   cases ho : lk out t with
   | none =>
     rw [ho] at h1
     cases ho' : lk out t' with
     | none => rw [ho'] at h2; exact h.dis t t' b b' x h1 h2 l1 l2 (old t b x ho h1 x1) (old t' b' x ho' h2 x2)
     | some o => rw [ho'] at h2; simp only at h2; subst h2; exact (mix t' t b' b ho' l2 x2 ho h1 l1 x1).elim
   | some o =>
     rw [ho] at h1; simp only at h1; subst h1
     cases ho' : lk out t' with
     | none => rw [ho'] at h2; exact (mix t t' b b' ho l1 x1 ho' h2 l2 x2).elim
     | some o => rw [ho'] at h2; simp only at h2; subst h2; exact k.dis t t' b b' x ho ho' l1 l2 x1 x2
 · rcases k.held h hx with h1 | h1
   · exact .inl (Nat.le_trans h.fr.size h1)
   · exact h.new x h1
 · refine h.fr.trans k.fr fun x hx hh => ?_
   obtain ⟨n, b, _, h2, h3, h4⟩ := hh
   rcases h.new x ⟨n, b, h2, h3, h4⟩ with h1 | h1
   · omega
   · exact h1
end
end Go.Ab
namespace Go.Ab
open Go Go.RowKit
variable {P : Program}
def zeroEq : D → Value → Bool
 | .b x, .bool y => x == y
 | .k kd m, .int kd' n => decide (kd = kd') && decide (m = n)
 | .s l, .string s => l == s.data.toList
 | .nil, .slice none 0 0 => true
 | .v (.pointer none), .pointer none => true
 | _, _ => false
def zerosEq : List D → List Value → Bool
 | [], [] => true
 | d :: r, v :: q => zeroEq d v && zerosEq r q
 | _, _ => false
def zeroChk (d : D) (v : Value) : Bool :=
 match d, v with
 | .agg ds, .agg us => zerosEq ds us.toList
 | d, v => zeroEq d v
def placesChk (P : Program) : List (Nat × Nat) → List Field → Bool
 | [], [] => true
 | (o, z) :: r, f :: fs => Nat.beq f.offset o && Nat.beq (P.cellsOf f.type) z && Nat.blt 0 z && placesChk P r fs
 | _, _ => false
def kindChk (P : Program) (t : TypeId) (k : TK) : Bool :=
 match k, P.underlying t with
 | .str, some .string => true
 | .int kd, some (.int kd') => decide (kd = kd')
 | .bool, some .bool => true
 | .slice e, some (.slice e') => Nat.beq e e'
 | .struct pl, some (.struct fs) => placesChk P pl fs.toList
 | .parr n e, some (.array m e') => Nat.beq n m && Nat.beq e e'
 | .other, some (.struct _) => false
 | .other, some (.array _ _) => false
 | .other, some _ => true
 | _, _ => false
def eqFields (P : Program) (rec : TypeId → Option (List Nat)) : List Field → Nat → Nat → Option (List Nat)
 | [], off, n => if Nat.beq off n then some [] else none
 | f :: fs, off, n => match f.name != "_" && Nat.beq f.offset off && Nat.blt 0 (P.cellsOf f.type), rec f.type with
   | true, some c => match eqFields P rec fs (off + P.cellsOf f.type) n with
     | some r => if Nat.beq c.length (P.cellsOf f.type) then some (c ++ r) else none
     | none => none
   | _, _ => none
def eqCodes (P : Program) : Nat → TypeId → Option (List Nat)
 | 0, _ => none
 | d + 1, t => match P.underlying t with
   | some .string => if Nat.beq (P.cellsOf t) 1 then some [2] else none
   | some .bool => if Nat.beq (P.cellsOf t) 1 then some [0] else none
   | some (.int _) => if Nat.beq (P.cellsOf t) 1 then some [1] else none
   | some (.struct fs) => if P.stoodInHeld t then none else eqFields P (eqCodes P d) fs.toList 0 (P.cellsOf t)
   | _ => none
def eqChk (P : Program) (t : TypeId) (c : Option (List Nat)) : Bool :=
 match c with
 | none => true
 | some c => (match P.underlying t with | some (.struct _) => true | _ => false) && decide (eqCodes P 5 t = some c) && !P.eqGuardType P.depth t
def tyChk (P : Program) (t : TypeId) (td : TD) : Bool :=
 match P.info? t with
 | some i => Nat.beq i.size td.size && Nat.beq i.bytes td.bytes && Nat.blt 0 td.size && Nat.beq (cellsOf td.zero).length td.size &&
  (match i.zero with | some v => zeroChk td.zero v | none => false) && kindChk P t td.kind && eqChk P t td.eqv
 | none => false
def tysChk (P : Program) (tys : List (Nat × TD)) : Bool := tys.all fun (t, td) => tyChk P t td
def TyOk (E : Env) : Prop := ∀ t td, E.ty t = some td → tyChk E.P t td = true
theorem tyOk_of {E : Env} {tys : List (Nat × TD)} (ht : E.ty = lk tys) (h : tysChk E.P tys = true) : TyOk E := by
 intro t td hl
 rw [ht] at hl
 exact List.all_eq_true.1 h _ (lk_mem hl)
section
variable {E : Env} (hty : TyOk E)
include hty
theorem TyOk.info {t : TypeId} {td : TD} (h : E.ty t = some td) : ∃ i v, E.P.info? t = some i ∧ i.size = td.size ∧ i.bytes = td.bytes ∧ i.zero = some v ∧ 0 < td.size ∧ (cellsOf td.zero).length = td.size ∧ zeroChk td.zero v = true ∧ kindChk E.P t td.kind = true := by
 have := hty t td h
 unfold tyChk at this
 split at this
 · rename_i i hi
   simp only [Bool.and_eq_true] at this
   obtain ⟨⟨⟨⟨⟨⟨h1, h2⟩, h3⟩, h4⟩, h5⟩, h6⟩, _⟩ := this
   split at h5
   · rename_i v hv
     exact ⟨i, v, hi, Nat.eq_of_beq_eq_true h1, Nat.eq_of_beq_eq_true h2, hv, Nat.le_of_ble_eq_true h3, Nat.eq_of_beq_eq_true h4, h5, h6⟩
   · cases h5
 · cases this
theorem TyOk.eqv {t : TypeId} {td : TD} {c : List Nat} (h : E.ty t = some td) (he : td.eqv = some c) : eqCodes E.P 5 t = some c ∧ E.P.eqGuardType E.P.depth t = false ∧ ∃ fs, E.P.underlying t = some (.struct fs) := by
 have := hty t td h
 unfold tyChk at this
 split at this
 · simp only [Bool.and_eq_true, he, eqChk] at this
   obtain ⟨_, ⟨h1, h2⟩, h3⟩ := this
   refine ⟨of_decide_eq_true h2, by simpa using h3, ?_⟩
   split at h1
   · exact ⟨_, by assumption⟩
   · cases h1
 · cases this
theorem TyOk.cells {t : TypeId} {td : TD} (h : E.ty t = some td) : E.P.cellsOf t = td.size := by
 obtain ⟨i, v, hi, hs, _⟩ := hty.info h
 simp [Program.cellsOf, hi, hs]
end
theorem zeroEq_VI {w : World} {Av : Nat → Prop} {d : D} {v : Value} (h : zeroEq d v = true) : VI w Av d v := by
 unfold zeroEq at h
 split at h <;> try (cases h; done)
 · simp at h; subst h; exact .b _
 · simp at h; obtain ⟨rfl, rfl⟩ := h; exact .k _ _
 · rename_i l s
   have h' : l = s.data.toList := by simpa using h
   have : s = ⟨l.toArray⟩ := by subst h'; cases s; simp
   rw [this]
   exact .s _
 · exact .nil
 · exact .v rfl
theorem zeroEq_atom {d : D} {v : Value} (h : zeroEq d v = true) : (∀ ds, d ≠ .agg ds) ∧ v.cells = #[v] ∧ cellsOf d = [d] := by
 unfold zeroEq at h
 split at h <;> try (cases h; done)
 all_goals exact ⟨by simp, rfl, rfl⟩
theorem zerosEq_VI {w : World} {Av : Nat → Prop} : ∀ {ds : List D} {us : List Value}, zerosEq ds us = true →
   ds.length = us.length ∧ (∀ u ∈ us, u.oneCell' = true) ∧ ∀ (i : Nat) (d : D) (u : Value), ds[i]? = some d → us[i]? = some u → VI w Av d u
 | [], [], _ => ⟨rfl, by simp, by simp⟩
 | [], _ :: _, h => by simp [zerosEq] at h
 | _ :: _, [], h => by simp [zerosEq] at h
 | d :: r, v :: q, h => by
   simp only [zerosEq, Bool.and_eq_true] at h
   obtain ⟨h1, h2⟩ := h
   obtain ⟨i1, i2, i3⟩ := zerosEq_VI (w := w) (Av := Av) h2
   refine ⟨by simp [i1], ?_, ?_⟩
   · intro u hu
     rcases List.mem_cons.1 hu with rfl | hu
     · exact (zeroEq_VI (w := w) (Av := Av) h1).one (zeroEq_atom h1).1
     · exact i2 u hu
   · intro i d' u' hd hu
     cases i with
     | zero => simp at hd hu; subst hd hu; exact zeroEq_VI h1
     | succ i => exact i3 i d' u' (by simpa using hd) (by simpa using hu)
structure Cs (w : World) (Av : Nat → Prop) (ρ : Nat → Option Value) (ds : List D) (us : List Value) : Prop where
 len : ds.length = us.length
 one : ∀ u ∈ us, u.oneCell' = true
 at_ : ∀ (i : Nat) (d : D) (u : Value), ds[i]? = some d → us[i]? = some u → VA w Av ρ d u
theorem cells_one {u : Value} (h : u.oneCell' = true) : u.cells = #[u] := by cases u <;> first | rfl | (simp [Value.oneCell'] at h)
theorem VG.cells {w : World} {Av : Nat → Prop} {ρ : Nat → Option Value} {d : D} {u : Value} (h : VG w Av ρ d u) : Cs w Av ρ (cellsOf d) u.cells.toList := by
 have atom : ∀ d u, VA w Av ρ d u → (∀ ds, d ≠ .agg ds) → Cs w Av ρ (cellsOf d) u.cells.toList := by
  intro d u h hd
  have h1 := h.one hd
  have hc : cellsOf d = [d] := by cases d <;> first | rfl | exact absurd rfl (hd _)
  rw [cells_one h1, hc]
  refine ⟨rfl, by simpa using h1, fun i d' u' a b => ?_⟩
  cases i with
  | zero => simp at a b; subst a b; exact h
  | succ i => simp at a
 cases h with
 | atom h =>
   by_cases hd : ∃ ds, d = .agg ds
   · obtain ⟨ds, rfl⟩ := hd
     cases h with
     | im h =>
       cases h with
       | agg hl h1 hr => exact ⟨by simpa [cellsOf, Value.cells] using hl, by simpa [Value.cells] using h1, fun i d u a b => .im (hr i d u a (by simpa [Value.cells] using b))⟩
   · exact atom d u h (fun ds e => hd ⟨ds, e⟩)
 | agg hl h1 h => exact ⟨by simpa [cellsOf, Value.cells] using hl, by simpa [Value.cells] using h1, fun i d u a b => h i d u a (by simpa [Value.cells] using b)⟩
theorem zeroChk_cells {w : World} {Av : Nat → Prop} {ρ : Nat → Option Value} {d : D} {v : Value} (h : zeroChk d v = true) : Cs w Av ρ (cellsOf d) v.cells.toList ∧ ∀ (i : Nat) (d' : D) (u : Value), (cellsOf d)[i]? = some d' → v.cells.toList[i]? = some u → VI w Av d' u := by
 unfold zeroChk at h
 split at h
 · obtain ⟨h1, h2, h3⟩ := zerosEq_VI (w := w) (Av := Av) h
   exact ⟨⟨by simpa [cellsOf, Value.cells] using h1, by simpa [Value.cells] using h2, fun i d u a b => .im (h3 i d u a (by simpa [Value.cells] using b))⟩, fun i d u a b => h3 i d u a (by simpa [Value.cells] using b)⟩
 · obtain ⟨h1, h2, h3⟩ := zeroEq_atom h
   have hv := zeroEq_VI (w := w) (Av := Av) h
   rw [h2, h3]
   refine ⟨⟨rfl, by simpa using hv.one h1, ?_⟩, ?_⟩ <;> intro i d' u a b <;> cases i <;> simp at a b <;> subst a b <;> first | exact .im hv | exact hv
theorem list_of {α β : Type} (p : Nat → α → β → Prop) : ∀ (ds : List α), (∀ (j : Nat) (d : α), ds[j]? = some d → ∃ u, p j d u) → ∃ us : List β, us.length = ds.length ∧ ∀ (j : Nat) (d : α) (u : β), ds[j]? = some d → us[j]? = some u → p j d u
 | [], _ => ⟨[], rfl, by simp⟩
 | d :: r, h => by
   obtain ⟨u, hu⟩ := h 0 d rfl
   obtain ⟨us, h1, h2⟩ := list_of (fun j => p (j + 1)) r (fun j d' hd => h (j + 1) d' (by simpa using hd))
   refine ⟨u :: us, by simp [h1], fun j d' u' a b => ?_⟩
   cases j with
   | zero => simp at a b; subst a b; exact hu
   | succ j => exact h2 j d' u' (by simpa using a) (by simpa using b)
theorem add_mk (b o j : Nat) : (⟨b, o, none⟩ : Addr).add j = ⟨b, o + j, none⟩ := by unfold Addr.add; split <;> simp_all
theorem add_add (a : Addr) (i j : Nat) : (a.add i).add j = a.add (i + j) := by
 unfold Addr.add
 by_cases hi : i = 0 <;> by_cases hj : j = 0 <;> simp [hi, hj, Nat.add_assoc]
section
variable {E : Env} (hty : TyOk E) {w : World}
include hty
theorem isAgg_run {t : TypeId} {td : TD} (h : E.ty t = some td) : (isAgg t).run E.P w = .ok (isAggK td.kind) w := by
 obtain ⟨i, v, _, _, _, _, _, _, _, hk⟩ := hty.info h
 unfold kindChk at hk
 split at hk <;> (try (cases hk; done)) <;> rename_i hq hu <;> rw [hq] <;> first
  | simp [isAgg, run_underlying hu, isAggK]
  | (rename_i d _ _ ; cases d <;> first | (simp_all; done) | simp [isAgg, run_underlying hu, isAggK])
theorem sizeOf_run {t : TypeId} {td : TD} (h : E.ty t = some td) : (Go.sizeOf t).run E.P w = .ok td.size w := by
 obtain ⟨i, v, hi, hs, _⟩ := hty.info h
 simp [Go.sizeOf, typeInfo, hi, hs]
theorem zero_run {t : TypeId} {td : TD} (h : E.ty t = some td) : ∃ v, (zeroValue t).run E.P w = .ok v w ∧ zeroChk td.zero v = true := by
 obtain ⟨i, v, hi, hs, _, hz, _, _, hc, _⟩ := hty.info h
 exact ⟨v, by simp [zeroValue, typeInfo, hi, hz], hc⟩
theorem loadK_run {Av : Nat → Prop} {ρ : Nat → Option Value} {t : TypeId} {td : TD} (h : E.ty t = some td) {ad : Addr} {ds : List D} {K : D → Prop}
   (hc : ∀ (j : Nat) (d : D), ds[j]? = some d → ∃ u, w.cell? (ad.add j) = some u ∧ u.oneCell' = true ∧ VA w Av ρ d u) (hk : loadK td ds K) :
   ∃ d v, (loadVar t ad).run E.P w = .ok v w ∧ VG w Av ρ d v ∧ K d := by
 unfold loadK at hk
 split at hk
 · rename_i hagg
   split at hk
   · rename_i hle
     have hle : td.size ≤ ds.length := Nat.le_of_ble_eq_true hle
     obtain ⟨us, h1, h2⟩ := list_of (fun (j : Nat) (d : D) (u : Value) => w.cell? (ad.add j) = some u ∧ u.oneCell' = true ∧ VA w Av ρ d u) (ds.take td.size) (fun j d hd => hc j d (by
      rw [List.getElem?_take] at hd; split at hd <;> first | exact hd | cases hd))
     have hlen : us.length = td.size := by rw [h1, List.length_take]; omega
     have hall : ∀ (j : Nat) (u : Value), us[j]? = some u → ∃ d, (ds.take td.size)[j]? = some d := by
      intro j u hu
      have : j < us.length := (List.getElem?_eq_some_iff.1 hu).1
      exact ⟨_, List.getElem?_eq_getElem (by omega)⟩
     refine ⟨_, .agg us.toArray, ?_, .agg h1.symm ?_ (fun j d u a b => (h2 j d u a b).2.2), hk⟩
     · have := run_loadCells_list (P := E.P) w ad us (fun j u hu => by obtain ⟨d, hd⟩ := hall j u hu; exact (h2 j d u hd hu).1)
       rw [hlen] at this
       simp [loadVar, isAgg_run hty h, hagg, sizeOf_run hty h, this]
     · intro u hu
       obtain ⟨j, hj⟩ := List.mem_iff_getElem?.1 hu
       obtain ⟨d, hd⟩ := hall j u hj
       exact (h2 j d u hd hj).2.1
   · exact hk.elim
 · rename_i hagg
   split at hk
   · rename_i d r
     obtain ⟨u, hu, h1, hv⟩ := hc 0 d rfl
     refine ⟨d, u, ?_, .atom hv, hk⟩
     have : w.cell? ad = some u := hu
     simp [loadVar, isAgg_run hty h, hagg, run_load, this]
   · exact hk.elim
end
section
variable {E : Env} {cx : Cx} {tm : Tm} {S : Store} {a : Act} {w : World} {ρ : Nat → Option Value}
theorem VI.ep_inv {Av : Nat → Prop} {cs : List D} {v : Value} (h : VI w Av (.ep cs) v) : ∃ ad, v = .pointer (some ad) ∧ ad.block < w.heap.size ∧ ¬ Av ad.block ∧
   ∀ (j : Nat) (d : D), cs[j]? = some d → ∃ u, w.cell? (ad.add j) = some u ∧ u.oneCell' = true ∧ VI w Av d u := by
 cases h with
 | ep U hb hav hcell h1 hrec => exact ⟨_, rfl, hb, hav, fun j d hd => ⟨U j, hcell j d hd, h1 j d hd, hrec j d hd⟩⟩
theorem VR.ep_inv {Av : Nat → Prop} {cs : List D} {v : Value} (h : VR w Av ρ (.ep cs) v) : VI w Av (.ep cs) v := by
 cases h with
 | gr h => cases h with
   | atom h => cases h with
     | im h => exact h
theorem VR.bp_inv {Av : Nat → Prop} {n off : Nat} {v : Value} (h : VR w Av ρ (.bp n off) v) : ∃ b, ρ n = some (.pointer (some ⟨b, 0, none⟩)) ∧ v = .pointer (some ⟨b, off, none⟩) := by
 cases h with
 | gr h => cases h with
   | atom h => cases h with
     | im h => cases h
     | bp h => exact ⟨_, h, rfl⟩
theorem VR.op_inv {Av : Nat → Prop} {n sz i off : Nat} {v : Value} (h : VR w Av ρ (.op n sz i off) v) : ∃ g len c, nmv ρ n = some (.slice (some ⟨g, 0, none⟩) len c) ∧ v = .pointer (some ⟨g, i * sz + off, none⟩) := by
 cases h with
 | gr h => cases h with
   | atom h => cases h with
     | im h => cases h
     | op h => exact ⟨_, _, _, h, rfl⟩
theorem VR.own_inv {Av : Nat → Prop} {n : Nat} {v : Value} (h : VR w Av ρ (.own n) v) : nmv ρ n = some v := by
 cases h with
 | gr h => cases h with
   | atom h => cases h with
     | im h => cases h
     | own h => exact h
theorem VR.k_inv {Av : Nat → Prop} {kd : IntKind} {n : Int} {v : Value} (h : VR w Av ρ (.k kd n) v) : v = .int kd n := by
 cases h with
 | gr h => cases h with
   | atom h => cases h with
     | im h => cases h; rfl
theorem VR.b_inv {Av : Nat → Prop} {x : Bool} {v : Value} (h : VR w Av ρ (.b x) v) : v = .bool x := by
 cases h with
 | gr h => cases h with
   | atom h => cases h with
     | im h => cases h; rfl
theorem VR.s_inv {Av : Nat → Prop} {l : List UInt8} {v : Value} (h : VR w Av ρ (.s l) v) : v = .string ⟨l.toArray⟩ := by
 cases h with
 | gr h => cases h with
   | atom h => cases h with
     | im h => cases h; rfl
theorem VR.nil_inv {Av : Nat → Prop} {v : Value} (h : VR w Av ρ .nil v) : v = .slice none 0 0 := by
 cases h with
 | gr h => cases h with
   | atom h => cases h with
     | im h => cases h; rfl
theorem VR.sl_inv {Av : Nat → Prop} {xs : List (List D)} {v : Value} (h : VR w Av ρ (.sl xs) v) : VI w Av (.sl xs) v := by
 cases h with
 | gr h => cases h with
   | atom h => cases h with
     | im h => exact h
theorem VI.sl_inv {Av : Nat → Prop} {xs : List (List D)} {v : Value} (h : VI w Av (.sl xs) v) : ∃ A n c, v = .slice A n c ∧ xs.length = n ∧ n ≤ c ∧ c ≤ maxLen ∧ (A = none → xs = []∧ c = 0) ∧
   ∀ ad, A = some ad → (xs ≠ [] → ad.block < w.heap.size) ∧ (xs ≠ [] → ¬ Av ad.block) ∧ ∃ sz, (∀ cs ∈ xs, cs.length = sz) ∧ ∀ (i j : Nat) (cs : List D) (d : D), xs[i]? = some cs → cs[j]? = some d → ∃ u, w.cell? (ad.add (i * sz + j)) = some u ∧ u.oneCell' = true ∧ VI w Av d u := by
 cases h with
 | sl0 => exact ⟨none, 0, 0, rfl, rfl, Nat.le_refl _, Nat.zero_le _, fun _ => ⟨rfl, rfl⟩, fun ad h => by cases h⟩
 | sl U hn hnc hc hb hav hsz hcell h1 hrec =>
   exact ⟨_, _, _, rfl, hn, hnc, hc, fun h => (by cases h), fun ad h => by cases h; exact ⟨hb, hav, _, hsz, fun i j cs d a b => ⟨_, hcell i j cs d a b, h1 i j cs d a b, hrec i j cs d a b⟩⟩⟩
theorem szK_inv {e : TypeId} {sz : Nat} {K : Prop} (h : szK E e sz K) : ∃ te, E.ty e = some te ∧ te.size = sz ∧ K := by
 unfold szK at h
 split at h
 · rename_i te hte
   split at h
   · rename_i hb
     exact ⟨te, hte, Nat.eq_of_beq_eq_true hb, h⟩
   · exact h.elim
 · exact h.elim
variable (hty : TyOk E)
include hty
theorem addrK_run (h : R E cx tm S a w ρ) {t : TypeId} {td : TD} (ht : E.ty t = some td) {d : D} {v : Value} (hv : VR w (AvS cx.G S ρ) ρ d v) {K : D → Prop} (hk : addrK E S d td K) :
   ∃ d' u, (Instr.loadAt t v).run E.P w = .ok u w ∧ VG w (AvS cx.G S ρ) ρ d' u ∧ K d' := by
 unfold addrK at hk
 split at hk
 · rename_i n off
   split at hk
   · rename_i e cs hl
     obtain ⟨b, hr, rfl⟩ := hv.bp_inv
     obtain ⟨b', us, hr', hh, hlen, h1, hc⟩ := h.st _ _ hl
     rw [hr] at hr'
     simp at hr'
     subst hr'
     obtain ⟨d', u, hrun, hg, hK⟩ := loadK_run hty ht (ad := ⟨b, off, none⟩) (Av := AvS cx.G S ρ) (ρ := ρ) (fun j d hd => by
      rw [List.getElem?_drop] at hd
      have hlt : off + j < us.length := by rw [← hlen]; exact (List.getElem?_eq_some_iff.1 hd).1
      refine ⟨us[off + j], ?_, h1 _ (List.getElem_mem hlt), hc _ _ _ hd (List.getElem?_eq_getElem hlt)⟩
      rw [add_mk, cell_of_row w b _ _ _ _ hh]
      simp [hlt]) hk
     exact ⟨d', u, by simp [Instr.loadAt, Instr.sureAddr, hrun], hg, hK⟩
   · exact hk.elim
 · rename_i cs
   obtain ⟨ad, rfl, hb, hav, hc⟩ := hv.ep_inv.ep_inv
   obtain ⟨d', u, hrun, hg, hK⟩ := loadK_run hty ht (ad := ad) (Av := AvS cx.G S ρ) (ρ := ρ) (fun j d hd => let ⟨u, a1, a2, a3⟩ := hc j d hd; ⟨u, a1, a2, .im a3⟩) hk
   exact ⟨d', u, by simp [Instr.loadAt, Instr.sureAddr, hrun], hg, hK⟩
 · rename_i n sz i off
   have key : ∀ (e : TypeId) (xs : List (List D)) (u0 : Value) (us : List Value), ρ n = some u0 → w.ownsRow 0 e (E.P.cellsOf e) u0 xs.length us → Rows (VA w (AvS cx.G S ρ) ρ) (E.P.cellsOf e) xs us →
      szK E e sz (∃ cs, xs[i]? = some cs ∧ loadK td (cs.drop off) K) → ∃ d' u, (Instr.loadAt t v).run E.P w = .ok u w ∧ VG w (AvS cx.G S ρ) ρ d' u ∧ K d' := by
    intro e xs u0 us hr' ho hc hk
    obtain ⟨te, hte, hsz, cs, hcs, hk⟩ := szK_inv hk
    obtain ⟨g, len, c, hr, rfl⟩ := hv.op_inv
    have hz : E.P.cellsOf e = sz := by rw [hty.cells hte, hsz]
    replace hr' := nmv_of hr' (top_row ho)
    rw [hr] at hr'
    simp at hr'
    subst hr'
    obtain ⟨d', u, hrun, hg, hK⟩ := loadK_run hty ht (ad := ⟨g, i * sz + off, none⟩) (Av := AvS cx.G S ρ) (ρ := ρ) (fun j d hd => by
     rw [List.getElem?_drop] at hd
     obtain ⟨u, hu, hv⟩ := hc.at_ i (off + j) cs d hcs hd
     rw [hz] at hu
     have hlt := (List.getElem?_eq_some_iff.1 hu).1
     refine ⟨u, ?_, hc.one _ (List.mem_of_getElem? hu), hv⟩
     have := ho.cells (g := g) rfl _ _ hu
     rw [add_mk] at this ⊢
     simpa [Nat.add_assoc] using this) hk
    exact ⟨d', u, by simp [Instr.loadAt, Instr.sureAddr, hrun], hg, hK⟩
   split at hk
   · rename_i e xs hl
     obtain ⟨u0, us, hr', ho, hc⟩ := h.st _ _ hl
     exact key e xs u0 us hr' ho (hc.mono fun _ _ h => .im h) hk
   · rename_i e xs hl
     obtain ⟨u0, us, hr', ho, hc⟩ := h.st _ _ hl
     exact key e xs u0 us hr' ho hc hk
   · exact hk.elim
 · exact hk.elim
end
end Go.Ab
namespace Go.Ab
open Go Go.RowKit
theorem wp_value {P : Program} {o : Oper} {a : Act} {w w' : World} {v : Value} {next : Act → World → Prop} {Q : Exit → Act → World → Prop}
   (hrun : (execOp a.eval o).run P w = .ok (.value v) w') (h : next (a.put o.dst v) w') : o.wp P a w next Q := by
 unfold Oper.wp
 rw [hrun]
 exact h
theorem wp_unit {P : Program} {o : Oper} {a : Act} {w w' : World} {next : Act → World → Prop} {Q : Exit → Act → World → Prop}
   (hrun : (execOp a.eval o).run P w = .ok .skip w') (h : next (a.put o.dst undef) w') : o.wp P a w next Q := by
 unfold Oper.wp
 rw [hrun]
 exact h
theorem evK_inv {gl : Nat → Option (List D)} {tm : Tm} {x : Operand} {K : D → Prop} (h : evK gl tm x K) : ∃ d, ev gl tm x = some d ∧ K d := by
 unfold evK at h
 split at h
 · exact ⟨_, by assumption, h⟩
 · exact h.elim
theorem tyK_inv {E : Env} {t : TypeId} {K : TD → Prop} (h : tyK E t K) : ∃ d, E.ty t = some d ∧ K d := by
 unfold tyK at h
 split at h
 · exact ⟨_, by assumption, h⟩
 · exact h.elim
theorem bsplit_elim {x : Bool} {K : Bool → Prop} (h : bsplit x K) : K x := by
 cases x
 · exact h.f rfl
 · exact h.t rfl
theorem VR.vg {w : World} {Av : Nat → Prop} {ρ : Nat → Option Value} {d : D} {u : Value} (h : VR w Av ρ d u) (hn : isTup d = false) : VG w Av ρ d u := by
 cases h with
 | gr h => exact h
 | tup hl h => simp [isTup] at hn
theorem VR.undef {w : World} {Av : Nat → Prop} {ρ : Nat → Option Value} : VR w Av ρ (.tup []) undef := .tup (ds := []) (us := []) rfl (by simp)
def LStep (E : Env) (o : Oper) (tm : Tm) (S : Store) (fp : List Nat) (nx nx' : Nat) (d : D) (out : Out) : Prop :=
 ∀ (cx : Cx) (tm' : Tm) (S' : Store) (a : Act) (w : World) (ρ : Nat → Option Value) (Q : Exit → Act → World → Prop), (∀ t, o.dst = some t → t < cx.N) →
   (∀ x ∈ o.op.operands, ev E.gl tm' x = ev E.gl tm x) → (∀ n ∈ fp, lk S' n = lk S n) → R E cx tm' S' a w ρ → (∀ n, nx ≤ n → n < nx' → ρ n = none) →
   o.wp E.P a w (fun a' w' => ∃ ρ', R E cx (put o.dst d tm') (ap out S') a' w' ρ' ∧ ∀ n, ¬ (nx ≤ n ∧ n < nx') → ρ n = none → ρ' n = none) Q
def Ok1 (E : Env) (o : Oper) (tm : Tm) (S : Store) (nx : Nat) (K : Kt) : Prop :=
 ∃ (fp : Fp) (out : Out) (nx' : Nat) (d : D) (S2 : Store), LStep E o tm S fp.all nx nx' d out ∧ (∀ n, lk out n ≠ none → n ∈ fp.wr) ∧ (∀ n ∈ fp.wr, n ∈ fp.all) ∧ nx ≤ nx' ∧
   (∀ n, nx ≤ n → n < nx' → n ∈ fp.wr) ∧ (∀ n, lk S2 n = lk (ap out S) n) ∧ K fp (put o.dst d tm) S2 nx'
section
variable {E : Env} {o : Oper} {tm : Tm} {S : Store} {nx : Nat} {K : Kt}
theorem Ok1.val {fp : Fp} {out : Out} {nx' : Nat} {d : D} {S2 : Store} (h1 : ∀ n, lk out n ≠ none → n ∈ fp.wr) (h2 : ∀ n ∈ fp.wr, n ∈ fp.all) (h3 : nx ≤ nx') (h4 : ∀ n, nx ≤ n → n < nx' → n ∈ fp.wr) (h5 : ∀ n, lk S2 n = lk (ap out S) n)
   (hk : K fp (put o.dst d tm) S2 nx')
   (hs : ∀ (cx : Cx) (tm' : Tm) (S' : Store) (a : Act) (w : World) (ρ : Nat → Option Value), (∀ x ∈ o.op.operands, ev E.gl tm' x = ev E.gl tm x) → (∀ n ∈ fp.all, lk S' n = lk S n) → R E cx tm' S' a w ρ → (∀ n, nx ≤ n → n < nx' → ρ n = none) →
     ∃ v w' ρ', (execOp a.eval o).run E.P w = .ok (.value v) w' ∧ R E cx tm' (ap out S') a w' ρ' ∧ VR w' (AvS cx.G (ap out S') ρ') ρ' d v ∧ ∀ n, ¬ (nx ≤ n ∧ n < nx') → ρ' n = ρ n) : Ok1 E o tm S nx K := by
 refine ⟨fp, out, nx', d, S2, fun cx tm' S' a w ρ Q hd he hf h hn => ?_, h1, h2, h3, h4, h5, hk⟩
 obtain ⟨v, w', ρ', e1, e2, e3, e4⟩ := hs cx tm' S' a w ρ he hf h hn
 exact wp_value e1 ⟨ρ', e2.value hd e3, fun n h1 h2 => by rw [e4 n h1]; exact h2⟩
theorem Ok1.pure {fp : List Nat} {d : D} (hk : K ⟨fp, []⟩ (put o.dst d tm) S nx)
   (hs : ∀ (cx : Cx) (tm' : Tm) (S' : Store) (a : Act) (w : World) (ρ : Nat → Option Value), (∀ x ∈ o.op.operands, ev E.gl tm' x = ev E.gl tm x) → (∀ n ∈ fp, lk S' n = lk S n) → R E cx tm' S' a w ρ →
     ∃ v, (execOp a.eval o).run E.P w = .ok (.value v) w ∧ VR w (AvS cx.G S' ρ) ρ d v) : Ok1 E o tm S nx K := by
 refine Ok1.val (fp := ⟨fp, []⟩) (out := []) (nx' := nx) (d := d) (S2 := S) (by simp [lk]) (by simp) (Nat.le_refl _) (fun n h1 h2 => by omega) (fun _ => rfl) hk fun cx tm' S' a w ρ he hf h hn => ?_
 obtain ⟨v, e1, e2⟩ := hs cx tm' S' a w ρ he hf h
 exact ⟨v, w, ρ, e1, h, e2, fun _ _ => rfl⟩
end
theorem ap_append (o1 o2 : Out) (S : Store) : ap (o1 ++ o2) S = ap o1 (ap o2 S) := by
 induction o1 with
 | nil => rfl
 | cons p r ih =>
   obtain ⟨n, o⟩ := p
   cases o <;> simp [ap, ih]
section
variable {P : Program} {w : World} {Av : Nat → Prop}
theorem VI_of_rows {e : TypeId} {sz : Nat} {xs : List (List D)} {u : Value} {us : List Value} (ho : w.ownsRow 0 e sz u xs.length us) (hc : Rows (VI w Av) sz xs us) (hav : ∀ x, blkOf u = some x → ¬ Av x) : VI w Av (.sl xs) u := by
 rcases ho.2 with ⟨rfl, hn⟩ | ⟨g, cap, cur, rfl, _, hh, hnc, hcm, hcs, htake⟩
 · have : xs = [] := List.eq_nil_of_length_eq_zero hn
   subst this
   exact .sl0
 · have key : ∀ (i j : Nat) (cs : List D) (d : D), xs[i]? = some cs → cs[j]? = some d → us[i * sz + j]? = some (us.getD (i * sz + j) undef) ∧ VI w Av d (us.getD (i * sz + j) undef) := by
     intro i j cs d h2 h3
     obtain ⟨u', h4, h5⟩ := hc.at_ i j cs d h2 h3
     have : us.getD (i * sz + j) undef = u' := by simp [List.getD, h4]
     rw [this]
     exact ⟨h4, h5⟩
   refine .sl (sz := sz) (fun i j => us.getD (i * sz + j) undef) rfl hnc hcm (fun _ => (Array.getElem?_eq_some_iff.1 hh).1) (fun _ => hav g rfl) hc.el ?_ ?_ ?_
   · intro i j cs d h2 h3
     exact ho.cells (g := g) rfl _ _ (key i j cs d h2 h3).1
   · intro i j cs d h2 h3
     exact hc.one _ (List.mem_of_getElem? (key i j cs d h2 h3).1)
   · intro i j cs d h2 h3
     exact (key i j cs d h2 h3).2
end
def frB (b : Blk) : Blk :=
 match imB b with
 | some xs => .fr xs
 | none => b
def frzOut (S : Store) : List Nat → Out
 | [] => []
 | n :: r => match (lk S n).bind imB with
   | some xs => (n, some (.fr xs)) :: frzOut S r
   | none => frzOut S r
theorem frB_frB (b : Blk) : frB (frB b) = frB b := by
 unfold frB
 cases h : imB b with
 | none => simp [h]
 | some xs => rfl
theorem frz1_cons (t n : Nat) (b : Blk) (r : Store) : frz1 t ((n, b) :: r) = (n, if n = t then frB b else b) :: frz1 t r := by
 unfold frB
 by_cases hn : n = t
 · subst hn
   simp only [frz1, Nat.beq_refl, if_true]
   cases imB b <;> rfl
 · simp only [frz1, beq_no hn, if_neg hn]
theorem lk_frz1 (t : Nat) : ∀ (S : Store) (m : Nat), lk (frz1 t S) m = (lk S m).map fun b => if m = t then frB b else b
 | [], m => rfl
 | (n, b) :: r, m => by
   rw [frz1_cons, lk_cons, lk_cons, lk_frz1 t r m]
   by_cases hm : n = m
   · subst hm; simp
   · simp [hm]
theorem lk_frz : ∀ (ts : List Nat) (S : Store) (m : Nat), lk (frz ts S) m = (lk S m).map fun b => if m ∈ ts then frB b else b
 | [], S, m => by cases h : lk S m <;> simp [frz, h]
 | t :: r, S, m => by
   rw [frz, lk_frz r, lk_frz1]
   cases h : lk S m with
   | none => rfl
   | some b =>
     by_cases h1 : m = t
     · by_cases h2 : m ∈ r
       · have h3 : t ∈ r := by rw [← h1]; exact h2
         simp [h1, h3, frB_frB]
       · have h3 : ¬ t ∈ r := by rw [← h1]; exact h2
         simp [h1, h3]
     · simp [h1]
theorem lk_frzOut (S : Store) : ∀ (ts : List Nat) (m : Nat), lk (frzOut S ts) m = if m ∈ ts then ((lk S m).bind imB).map fun xs => some (.fr xs) else none
 | [], m => by simp [frzOut, lk]
 | t :: r, m => by
   have ih := lk_frzOut S r m
   simp only [frzOut]
   cases hl : (lk S t).bind imB with
   | some xs =>
     simp only
     rw [lk_cons, ih]
     by_cases h : t = m
     · subst h; simp [hl]
     · simp [h, Ne.symm h]
   | none =>
     simp only
     rw [ih]
     by_cases h : m = t
     · subst h; simp [hl]
     · simp [h]
theorem frz_ap (ts : List Nat) (S : Store) (n : Nat) : lk (frz ts S) n = lk (ap (frzOut S ts) S) n := by
 rw [lk_frz, lk_ap, lk_frzOut]
 by_cases h : n ∈ ts
 · simp only [if_pos h]
   cases hl : lk S n with
   | none => rfl
   | some b =>
     simp only [Option.map_some, Option.bind_some, frB]
     cases imB b <;> rfl
 · simp only [if_neg h]
   cases hl : lk S n <;> rfl
theorem imZ_get : ∀ {zs : List Slot} {ys : List (List D)}, imZ zs = some ys → ys.length = zs.length ∧ ∀ (i : Nat) (z : Slot), zs[i]? = some z → ∃ xs, z = .an xs ∧ ys[i]? = some [.sl xs]
 | [], ys, h => by simp [imZ] at h; subst h; simp
 | .an xs :: r, ys, h => by
   simp only [imZ] at h
   split at h
   · rename_i q hq
     cases h
     obtain ⟨h1, h2⟩ := imZ_get hq
     refine ⟨by simp [h1], fun i z hz => ?_⟩
     cases i with
     | zero => simp at hz; subst hz; exact ⟨xs, rfl, rfl⟩
     | succ i => simpa using h2 i z (by simpa using hz)
   · cases h
 | .nm a :: r, ys, h => by simp [imZ] at h
 | .lost :: r, ys, h => by simp [imZ] at h
theorem DeepOk.rows {P : Program} {w : World} {Av Av' : Nat → Prop} {ρ : Nat → Option Value} {t : Nat} {e e2 : TypeId} {zs : List Slot} {u : Value} {vs us : List Value} (h : DeepOk P w Av ρ t e e2 zs u vs us) {ys : List (List D)} (hz : imZ zs = some ys)
   (hi : ∀ d u, VI w Av d u → VI w Av' d u) (hav : ∀ x, Go.Ab.bk (.deep e e2 zs) (ρ t) x → ¬ Av' x) : VI w Av' (.sl ys) u := by
 obtain ⟨z1, z2⟩ := imZ_get hz
 refine VI_of_rows (e := e) (sz := 1) (us := us) (by rw [z1]; exact h.own) ⟨by rw [z1, h.lu, Nat.mul_one], fun cs hcs => ?_, h.one, fun i j cs d hc hd => ?_⟩ fun x hx => hav x (h.bk.2 (.inl hx))
 · obtain ⟨i, hi'⟩ := List.mem_iff_getElem?.1 hcs
   have hlt : i < zs.length := by rw [← z1]; exact (List.getElem?_eq_some_iff.1 hi').1
   obtain ⟨xs, _, q⟩ := z2 i _ (List.getElem?_eq_getElem hlt)
   rw [hi'] at q
   cases q
   rfl
 · have hlt : i < zs.length := by rw [← z1]; exact (List.getElem?_eq_some_iff.1 hc).1
   have hzi : zs[i]? = some zs[i] := List.getElem?_eq_getElem hlt
   obtain ⟨xs, q1, q2⟩ := z2 i _ hzi
   rw [hc] at q2
   cases q2
   rw [q1] at hzi
   cases j with
   | zero =>
     simp at hd
     subst hd
     obtain ⟨x, v, g1, g2, rfl, inner, g4, g5⟩ := h.us_at hzi
     exact ⟨x, by simpa using g1, VI_of_rows g4 (g5.mono hi) fun y hy => hav y (h.bk.2 (.inr ⟨i, xs, x, hzi, g2, hy⟩))⟩
   | succ j => simp at hd
section
variable {E : Env} {cx : Cx} {tm : Tm} {S S0 : Store} {a : Act} {w : World} {ρ : Nat → Option Value}
theorem R.notAv (h : R E cx tm S a w ρ) {n : Nat} {b c : Blk} (hl : lk S n = some b) (hb : live b = true) (hc : live c = false) {x : Nat} (hx : bk b (ρ n) x) : ¬ AvS cx.G (ap [(n, some c)] S) ρ x := by
 rintro (hG | ⟨t, b', q1, q2, q3⟩)
 · have h1 := h.g x hG
   rcases h.new x ⟨n, b, hl, hb, hx⟩ with h2 | h2
   · omega
   · exact h.gf x hG h2
 · rw [lk_ap, lk_cons] at q1
   by_cases e : n = t
   · rw [if_pos e] at q1; simp at q1; subst q1; rw [hc] at q2; cases q2
   · rw [if_neg e] at q1
     exact e (h.dis n t b b' x hl (by simpa [lk] using q1) hb q2 hx q3)
theorem R.frz1 (h : R E cx tm S a w ρ) {n : Nat} {xs : List (List D)} (hl : (lk S n).bind imB = some xs) : R E cx tm (ap [(n, some (.fr xs))] S) a w ρ := by
 have lo : ∀ m o, lk [(n, some (Blk.fr xs))] m = some o → m = n ∧ o = some (.fr xs) := by
  intro m o hm
  rw [lk_cons] at hm
  by_cases e : n = m
  · rw [if_pos e] at hm; cases hm; exact ⟨e.symm, rfl⟩
  · rw [if_neg e] at hm; simp [lk] at hm
 refine h.turn ⟨(Fr.refl _ w), fun _ _ h => h, fun m b hm hv => ?_, fun m m' b c x hm _ hv => ?_, fun hi m b hm => ?_⟩
 · obtain ⟨_, e⟩ := lo m _ hm; cases e; simp [live] at hv
 · obtain ⟨_, e⟩ := lo m _ hm; cases e; simp [live] at hv
 · obtain ⟨rfl, e⟩ := lo m _ hm
   cases e
   obtain ⟨b, hl, him⟩ := Option.bind_eq_some_iff.1 hl
   have hav : ∀ x, live b = true → bk b (ρ m) x → ¬ AvS cx.G (ap [(m, some (.fr xs))] S) ρ x := fun x hb hx => h.notAv hl hb rfl hx
   have hsr := h.st _ _ hl
   cases b with
   | box e cs => simp [imB] at him
   | row e ys => simp [imB] at him
   | own e ys =>
     simp only [imB, Option.some.injEq] at him
     subst him
     obtain ⟨u, us, hr, ho, hc⟩ := hsr
     exact ⟨u, nmv_of hr (top_row ho), VI_of_rows ho (hc.mono hi) fun x hx => hav x rfl (by rw [hr]; exact hx)⟩
   | fr ys =>
     simp only [imB, Option.some.injEq] at him
     subst him
     obtain ⟨u, hr, hv⟩ := hsr
     exact ⟨u, hr, hi _ _ hv⟩
   | deep e e2 zs =>
     obtain ⟨u, vs, us, hd⟩ := hsr
     exact ⟨u, nmv_tuple hd.name, hd.rows him hi fun x hx => hav x rfl hx⟩
theorem R.frzs (h : R E cx tm S a w ρ) : ∀ (ts : List Nat), (∀ t ∈ ts, lk S t = lk S0 t) → R E cx tm (ap (frzOut S0 ts) S) a w ρ
 | [], _ => h
 | t :: r, hs => by
   have h1 := R.frzs h r fun t ht => hs t (by simp [ht])
   simp only [frzOut]
   cases hl : (lk S0 t).bind imB with
   | none => exact h1
   | some xs =>
     have : (t, some (Blk.fr xs)) :: frzOut S0 r = [(t, some (Blk.fr xs))] ++ frzOut S0 r := rfl
     simp only
     rw [this, ap_append]
     refine h1.frz1 ?_
     rw [lk_ap, lk_frzOut]
     by_cases ht : t ∈ r
     · rw [if_pos ht, hl]; rfl
     · rw [if_neg ht]; simp only; rw [hs t (by simp), hl]
theorem immA_VI (h : R E cx tm S a w ρ) {d d' : D} {u : Value} (hS : ∀ t ∈ nmA d, ∀ xs, (lk S0 t).bind imB = some xs → lk S t = some (.fr xs))
   (hv : VA w (AvS cx.G S ρ) ρ d u) (hi : immA S0 d = some d') : VI w (AvS cx.G S ρ) d' u ∧ (∀ ds, d' ≠ .agg ds) := by
 cases d with
 | own t =>
   have hr : nmv ρ t = some u := by
    cases hv with
    | im h => cases h
    | own h => exact h
   have fin : ∀ xs, lk S t = some (.fr xs) → VI w (AvS cx.G S ρ) (.sl xs) u := by
    intro xs hl
    obtain ⟨u', hr', hvi⟩ := h.st t _ hl
    rw [hr] at hr'
    cases hr'
    exact hvi
   simp only [immA] at hi
   split at hi
   · rename_i b hl
     split at hi
     · rename_i xs hb
       cases hi
       exact ⟨fin xs (hS t (by simp [nmA]) xs (by rw [hl]; exact hb)), by simp⟩
     · cases hi
   · cases hi
 | nil =>
   simp only [immA, Option.some.injEq] at hi
   subst hi
   cases hv with
   | im h => cases h; exact ⟨.sl0, by simp⟩
 | fn f cs =>
   simp only [immA] at hi
   split at hi
   · simp only [Option.some.injEq] at hi
     subst hi
     cases hv with
     | im h => exact ⟨h, by simp⟩
     | fn hl h =>
       rename_i us
       cases us with
       | nil => exact ⟨.fn f, by simp⟩
       | cons => simp at hl
   · cases hi
 | bp => simp [immA] at hi
 | op => simp [immA] at hi
 | junk => simp [immA] at hi
 | vw => simp [immA] at hi
 | agg => simp [immA] at hi
 | tup => simp [immA] at hi
 | b x => simp only [immA, Option.some.injEq] at hi; subst hi; cases hv with | im h => exact ⟨h, by simp⟩
 | k x => simp only [immA, Option.some.injEq] at hi; subst hi; cases hv with | im h => exact ⟨h, by simp⟩
 | s x => simp only [immA, Option.some.injEq] at hi; subst hi; cases hv with | im h => exact ⟨h, by simp⟩
 | v x => simp only [immA, Option.some.injEq] at hi; subst hi; cases hv with | im h => exact ⟨h, by simp⟩
 | sl x => simp only [immA, Option.some.injEq] at hi; subst hi; cases hv with | im h => exact ⟨h, by simp⟩
 | ep x => simp only [immA, Option.some.injEq] at hi; subst hi; cases hv with | im h => exact ⟨h, by simp⟩
theorem immAs_VI (h : R E cx tm S a w ρ) : ∀ {ds ds' : List D} {us : List Value}, (∀ t ∈ nmAs ds, ∀ xs, (lk S0 t).bind imB = some xs → lk S t = some (.fr xs)) →
   ds.length = us.length → (∀ (i : Nat) (d : D) (u : Value), ds[i]? = some d → us[i]? = some u → VA w (AvS cx.G S ρ) ρ d u) → immAs S0 ds = some ds' →
   ds'.length = us.length ∧ ∀ (i : Nat) (d : D) (u : Value), ds'[i]? = some d → us[i]? = some u → VI w (AvS cx.G S ρ) d u
 | [], ds', us, _, hl, _, hi => by simp only [immAs, Option.some.injEq] at hi; subst hi; exact ⟨by simpa using hl, by simp⟩
 | d :: r, ds', [], _, hl, _, _ => by simp at hl
 | d :: r, ds', u :: q, hS, hl, hv, hi => by
   simp only [immAs] at hi
   split at hi
   · rename_i d1 hd1
     split at hi
     · rename_i r1 hr1
       cases hi
       have h1 := immA_VI h (fun t ht => hS t (by simp [nmAs, ht])) (hv 0 d u rfl rfl) hd1
       have h2 := immAs_VI h (us := q) (fun t ht => hS t (by simp [nmAs, ht])) (by simpa using hl) (fun i d u p q => hv (i + 1) d u (by simpa using p) (by simpa using q)) hr1
       refine ⟨by simp [h2.1], fun i d' u' p q => ?_⟩
       cases i with
       | zero => simp at p q; subst p q; exact h1.1
       | succ i => exact h2.2 i d' u' (by simpa using p) (by simpa using q)
     · cases hi
   · cases hi
theorem immD_VI (h : R E cx tm S a w ρ) {d d' : D} {u : Value} (hS : ∀ t ∈ nmD d, ∀ xs, (lk S0 t).bind imB = some xs → lk S t = some (.fr xs))
   (hv : VR w (AvS cx.G S ρ) ρ d u) (hi : immD S0 d = some d') : VI w (AvS cx.G S ρ) d' u := by
 by_cases ha : ∃ ds, d = .agg ds
 · obtain ⟨ds, rfl⟩ := ha
   simp only [immD] at hi
   split at hi
   · rename_i ds' hds
     cases hi
     have core : ∀ us : List Value, u = .agg us.toArray → ds.length = us.length → (∀ u ∈ us, u.oneCell' = true) → (∀ (i : Nat) (d : D) (u : Value), ds[i]? = some d → us[i]? = some u → VA w (AvS cx.G S ρ) ρ d u) → VI w (AvS cx.G S ρ) (.agg ds') u := by
      intro us hu hl h1 hr
      subst hu
      obtain ⟨e1, e2⟩ := immAs_VI h hS hl hr hds
      exact .agg e1 h1 e2
     cases hv with
     | gr hv =>
       cases hv with
       | atom hv =>
         cases hv with
         | im hv =>
           cases hv with
           | agg hl h1 hr => exact core _ rfl hl h1 fun i d u p q => .im (hr i d u p q)
       | agg hl h1 hr => exact core _ rfl hl h1 hr
   · cases hi
 · have hd : immD S0 d = immA S0 d := by cases d <;> first | rfl | exact absurd ⟨_, rfl⟩ ha
   rw [hd] at hi
   cases hv with
   | gr hv =>
     cases hv with
     | atom hv =>
       refine (immA_VI h ?_ hv hi).1
       intro t ht
       refine hS t ?_
       cases d <;> first | exact ht | exact absurd ⟨_, rfl⟩ ha | (simp [nmA] at ht)
     | agg => exact absurd ⟨_, rfl⟩ ha
   | tup => simp [immA] at hi
theorem frz_fits {S' : Store} {ts : List Nat} (ha : ∀ t ∈ ts, lk S' t = lk S0 t) : ∀ t ∈ ts, ∀ xs, (lk S0 t).bind imB = some xs → lk (ap (frzOut S0 ts) S') t = some (.fr xs) := by
 intro t ht xs hx
 rw [lk_ap, lk_frzOut, if_pos ht, hx]
 rfl
end
end Go.Ab
namespace Go.Ab
open Go Go.RowKit
section
variable {P : Program} {E : Env}
theorem TyOk.kind (hty : TyOk E) {t : TypeId} {td : TD} (h : E.ty t = some td) : kindChk E.P t td.kind = true := by
 obtain ⟨_, _, _, _, _, _, _, _, _, hk⟩ := hty.info h
 exact hk
theorem kind_slice {t e : TypeId} (h : kindChk P t (.slice e) = true) : P.underlying t = some (.slice e) := by
 unfold kindChk at h
 split at h <;> (try (cases h; done)) <;> rename_i h1 h2 <;> (try (cases h1; done))
 cases h1
 rw [h2, Nat.eq_of_beq_eq_true h]
theorem kind_str {t : TypeId} (h : kindChk P t .str = true) : P.underlying t = some .string := by
 unfold kindChk at h
 split at h <;> (try (cases h; done)) <;> rename_i h1 h2 <;> (try (cases h1; done))
 exact h2
theorem kind_int {t : TypeId} {kd : IntKind} (h : kindChk P t (.int kd) = true) : P.underlying t = some (.int kd) := by
 unfold kindChk at h
 split at h <;> (try (cases h; done)) <;> rename_i h1 h2 <;> (try (cases h1; done))
 cases h1
 rw [h2, of_decide_eq_true h]
theorem kind_struct {t : TypeId} {pl : List (Nat × Nat)} (h : kindChk P t (.struct pl) = true) : ∃ fs, P.underlying t = some (.struct fs) ∧ placesChk P pl fs.toList = true := by
 unfold kindChk at h
 split at h <;> (try (cases h; done)) <;> rename_i h1 h2 <;> (try (cases h1; done))
 cases h1
 exact ⟨_, h2, h⟩
theorem places_at : ∀ {pl : List (Nat × Nat)} {fs : List Field}, placesChk P pl fs = true → pl.length = fs.length ∧ ∀ (i o z : Nat), pl[i]? = some (o, z) → ∃ f : Field, fs[i]? = some f ∧ f.offset = o ∧ P.cellsOf f.type = z ∧ 0 < z
 | [], [], _ => ⟨rfl, by simp⟩
 | [], _ :: _, h => by simp [placesChk] at h
 | _ :: _, [], h => by simp [placesChk] at h
 | (o, z) :: r, f :: fs, h => by
   simp only [placesChk, Bool.and_eq_true] at h
   obtain ⟨⟨⟨h1, h2⟩, h3⟩, h4⟩ := h
   obtain ⟨i1, i2⟩ := places_at h4
   refine ⟨by simp [i1], fun i o' z' hi => ?_⟩
   cases i with
   | zero =>
     simp at hi
     obtain ⟨rfl, rfl⟩ := hi
     exact ⟨f, rfl, Nat.eq_of_beq_eq_true h1, Nat.eq_of_beq_eq_true h2, Nat.le_of_ble_eq_true h3⟩
   | succ i => exact i2 i o' z' (by simpa using hi)
theorem sizeOf_cells {t : TypeId} {z : Nat} (h : P.cellsOf t = z) (hz : 0 < z) (w : World) : (Go.sizeOf t).run P w = .ok z w := by
 unfold Program.cellsOf at h
 cases hi : P.info? t with
 | none => rw [hi] at h; simp at h; omega
 | some i => rw [hi] at h; simp at h; simp [Go.sizeOf, typeInfo, hi, h]
variable {cx : Cx} {tm : Tm} {S : Store} {nx : Nat} {a : Act} {w : World} {ρ : Nat → Option Value}
variable {o : Oper}
theorem fieldK_run (_h : R E cx tm S a w ρ) {pl : List (Nat × Nat)} {t : TypeId} (hk : kindChk E.P t (.struct pl) = true) {d : D} {v : Value} (hv : VR w (AvS cx.G S ρ) ρ d v) {i : Nat} {K : D → Prop} (hf : fieldK pl i d K) :
   ∃ d' u, (Instr.fieldAt t v i).run E.P w = .ok u w ∧ VR w (AvS cx.G S ρ) ρ d' u ∧ K d' := by
 obtain ⟨fs, hu, hp⟩ := kind_struct hk
 unfold fieldK at hf
 split at hf
 · rename_i o z hi
   split at hf
   · obtain ⟨f, hf1, hf2, hf3, hf4⟩ := (places_at hp).2 i o z hi
     have hfa : fs[i]? = some f := by simpa using hf1
     have hrun : ∀ ad : Addr, (Instr.fieldAt t (.pointer (some ad)) i).run E.P w = .ok (.pointer (some (ad.add o))) w := by
      intro ad
      have hz : z ≠ 0 := by omega
      simp [Instr.fieldAt, run_underlying hu, hfa, Instr.sureAddr, fieldPlace, sizeOf_cells hf3 hf4, hz, hf2]
     split at hf
     · obtain ⟨b, hr, rfl⟩ := hv.bp_inv
       exact ⟨_, _, hrun _, by rw [add_mk]; exact .gr (.atom (.bp hr)), hf⟩
     · rename_i n sz i' off
       obtain ⟨g, len, c, hr, rfl⟩ := hv.op_inv
       refine ⟨_, _, hrun _, ?_, hf⟩
       rw [add_mk, Nat.add_assoc]
       exact .gr (.atom (.op hr))
     · rename_i cs
       obtain ⟨ad, rfl, hb, hav, hc⟩ := hv.ep_inv.ep_inv
       refine ⟨_, _, hrun _, .gr (.atom (.im ?_)), hf⟩
       obtain ⟨us, h1, h2⟩ := list_of (fun (j : Nat) (d : D) (u : Value) => w.cell? (ad.add j) = some u ∧ u.oneCell' = true ∧ VI w (AvS cx.G S ρ) d u) cs hc
       have at_ : ∀ (j : Nat) (d : D), (cs.drop o)[j]? = some d → cs[o + j]? = some d ∧ us[o + j]? = some (us.getD (o + j) undef) := by
        intro j d hd
        rw [List.getElem?_drop] at hd
        have : o + j < us.length := by rw [h1]; exact (List.getElem?_eq_some_iff.1 hd).1
        exact ⟨hd, by simp [List.getD, this]⟩
       refine .ep (fun j => us.getD (o + j) undef) (by rw [add_block]; exact hb) (by rw [add_block]; exact hav) (fun j d hd => ?_) (fun j d hd => ?_) (fun j d hd => ?_)
       · obtain ⟨e1, e2⟩ := at_ j d hd
         rw [add_add]
         exact (h2 _ _ _ e1 e2).1
       · obtain ⟨e1, e2⟩ := at_ j d hd
         exact (h2 _ _ _ e1 e2).2.1
       · obtain ⟨e1, e2⟩ := at_ j d hd
         exact (h2 _ _ _ e1 e2).2.2
     · exact hf.elim
   · exact hf.elim
 · exact hf.elim
theorem VI.elem {Av : Nat → Prop} {xs : List (List D)} {v : Value} (hv : VI w Av (.sl xs) v) {j : Nat} {cs : List D} (hj : xs[j]? = some cs) :
   ∃ ad n c, v = .slice (some ad) n c ∧ j < n ∧ VI w Av (.ep cs) (.pointer (some (ad.add (j * cs.length)))) := by
 obtain ⟨A, n, c, rfl, hn, hnc, hc, hnone, hsome⟩ := hv.sl_inv
 have hjl : j < xs.length := (List.getElem?_eq_some_iff.1 hj).1
 cases A with
 | none => rw [(hnone rfl).1] at hjl; simp at hjl
 | some ad =>
   obtain ⟨hb, hav, sz, hsz, hcell⟩ := hsome ad rfl
   have hl : cs.length = sz := hsz cs (List.mem_of_getElem? hj)
   have hne : xs ≠ [] := fun e => by rw [e] at hjl; simp at hjl
   refine ⟨ad, n, c, rfl, by omega, ?_⟩
   obtain ⟨us, h1, h2⟩ := list_of (fun (k : Nat) (d : D) (u : Value) => w.cell? (ad.add (j * sz + k)) = some u ∧ u.oneCell' = true ∧ VI w Av d u) cs (fun k d hd => hcell j k cs d hj hd)
   have at_ : ∀ (k : Nat) (d : D), cs[k]? = some d → us[k]? = some (us.getD k undef) := by
    intro k d hd
    have : k < us.length := by rw [h1]; exact (List.getElem?_eq_some_iff.1 hd).1
    simp [List.getD, this]
   rw [hl]
   refine .ep (fun k => us.getD k undef) (by rw [add_block]; exact hb hne) (by rw [add_block]; exact hav hne) (fun k d hd => ?_) (fun k d hd => (h2 k d _ hd (at_ k d hd)).2.1) (fun k d hd => (h2 k d _ hd (at_ k d hd)).2.2)
   rw [add_add]
   exact (h2 k d _ hd (at_ k d hd)).1
theorem indexAt_run {t e : TypeId} (hu : P.underlying t = some (.slice e)) {z : Nat} (hz : (Go.sizeOf e).run P w = .ok z w) (ad : Addr) {n c j : Nat} (hj : j < n) (kd : IntKind) :
   (Instr.indexAt t (.slice (some ad) n c) (.int kd (j : Int))).run P w = .ok (.pointer (some (ad.add (j * z)))) w := by
 have h1 : (0 : Int) ≤ (j : Int) ∧ (j : Int) < (n : Int) := by omega
 simp [Instr.indexAt, run_underlying hu, asIntOf, hz, hj]
theorem kind_parr {t e : TypeId} {n : Nat} (h : kindChk P t (.parr n e) = true) : P.underlying t = some (.array n e) := by
 unfold kindChk at h
 split at h <;> (try (cases h; done)) <;> rename_i h1 h2 <;> (try (cases h1; done))
 cases h1
 simp only [Bool.and_eq_true] at h
 rw [h2, Nat.eq_of_beq_eq_true h.1, Nat.eq_of_beq_eq_true h.2]
theorem indexArr_run {t e : TypeId} {n : Nat} (hu : P.underlying t = some (.array n e)) {z : Nat} (hz : (Go.sizeOf e).run P w = .ok z w) (ad : Addr) {j : Nat} (hj : j < n) (kd : IntKind) :
   (Instr.indexAt t (.pointer (some ad)) (.int kd (j : Int))).run P w = .ok (.pointer (some (ad.add (j * z)))) w := by
 have h1 : (0 : Int) ≤ (j : Int) ∧ (j : Int) < (n : Int) := by omega
 by_cases h2 : n ≤ 1 <;> simp [Instr.indexAt, run_underlying hu, asIntOf, hz, hj, Instr.sureAddr]
theorem indexK_run (hty : TyOk E) (h : R E cx tm S a w ρ) {t e : TypeId} (hu : E.P.underlying t = some (.slice e)) {te : TD} (hte : E.ty e = some te) {d : D} {v : Value} (hv : VR w (AvS cx.G S ρ) ρ d v)
   {kd : IntKind} {i : Int} {K : D → Prop} (hk : indexK S d e te.size i K) : ∃ d' u, (Instr.indexAt t v (.int kd i)).run E.P w = .ok u w ∧ VR w (AvS cx.G S ρ) ρ d' u ∧ K d' := by
 have hz := sizeOf_run hty (w := w) hte
 have imm : ∀ xs, VI w (AvS cx.G S ρ) (.sl xs) v → ∀ (j : Nat) (cs : List D), i = (j : Int) → xs[j]? = some cs → cs.length = te.size → K (.ep cs) → ∃ d' u, (Instr.indexAt t v (.int kd i)).run E.P w = .ok u w ∧ VR w (AvS cx.G S ρ) ρ d' u ∧ K d' := by
  intro xs hv j cs hi hj hl hK
  obtain ⟨ad, n, c, rfl, hjn, hep⟩ := hv.elem hj
  subst hi
  refine ⟨_, _, indexAt_run hu hz ad hjn kd, ?_, hK⟩
  rw [← hl]
  exact .gr (.atom (.im hep))
 have mine : ∀ (n : Nat) (u : Value) (sz : Nat) (us : List Value) (len : Nat) (j : Nat), nmv ρ n = some u → v = u → w.ownsRow 0 e sz u len us → i = (j : Int) → j < len → K (.op n te.size j 0) →
    ∃ d' u, (Instr.indexAt t v (.int kd i)).run E.P w = .ok u w ∧ VR w (AvS cx.G S ρ) ρ d' u ∧ K d' := by
  intro n u sz us len j hr hvu ho hi hj hK
  subst hi hvu
  rcases ho.2 with ⟨_, hn⟩ | ⟨g, cap, cur, rfl, _⟩
  · omega
  · refine ⟨_, _, indexAt_run hu hz _ hj kd, ?_, hK⟩
    rw [add_mk, Nat.zero_add]
    have := VA.op (w := w) (Av := AvS cx.G S ρ) (t := n) (i := j) (off := 0) (sz := te.size) hr
    exact .gr (.atom this)
 unfold indexK at hk
 split at hk
 · obtain ⟨j, cs, hi, hj, hl, hK⟩ := hk
   exact imm _ hv.sl_inv j cs hi hj hl hK
 · rename_i n
   have hvr := hv.own_inv
   split at hk
   · rename_i e' xs hl
     split at hk
     · rename_i hb
       obtain ⟨j, hi, hj, hK⟩ := hk
       have he : e = e' := Nat.eq_of_beq_eq_true hb
       subst he
       obtain ⟨u, us, hr, ho, _⟩ := h.st _ _ hl
       replace hr := nmv_of hr (top_row ho)
       exact mine n u _ us _ j hr (by rw [hvr] at hr; exact Option.some.inj hr) ho hi hj hK
     · exact hk.elim
   · rename_i e' xs hl
     split at hk
     · rename_i hb
       obtain ⟨j, hi, hj, hK⟩ := hk
       have he : e = e' := Nat.eq_of_beq_eq_true hb
       subst he
       obtain ⟨u, us, hr, ho, _⟩ := h.st _ _ hl
       replace hr := nmv_of hr (top_row ho)
       exact mine n u _ us _ j hr (by rw [hvr] at hr; exact Option.some.inj hr) ho hi hj hK
     · exact hk.elim
   · rename_i e' e2 zs hl
     split at hk
     · rename_i hb
       obtain ⟨j, hi, hj, hK⟩ := hk
       have he : e = e' := Nat.eq_of_beq_eq_true hb
       subst he
       obtain ⟨u, vs, us, hd⟩ := h.st _ _ hl
       have hr := nmv_tuple hd.name
       exact mine n u _ us _ j hr (by rw [hvr] at hr; exact Option.some.inj hr) hd.own hi hj hK
     · exact hk.elim
   · rename_i xs hl
     obtain ⟨j, cs, hi, hj, hlen, hK⟩ := hk
     obtain ⟨u, hr, hvi⟩ := h.st _ _ hl
     rw [hvr] at hr
     cases hr
     exact imm _ hvi j cs hi hj hlen hK
   · exact hk.elim
 · exact hk.elim
theorem ba_get (l : List UInt8) (j : Nat) : (⟨l.toArray⟩ : ByteArray)[j]? = l[j]? := by
 by_cases h : j < l.length
 · have hs : j < (⟨l.toArray⟩ : ByteArray).size := by simpa [ByteArray.size] using h
   rw [ByteArray.getElem?_lt' _ _ hs, List.getElem?_eq_getElem h]
   rfl
 · have hs : ¬ j < (⟨l.toArray⟩ : ByteArray).size := by simpa [ByteArray.size] using h
   rw [ByteArray.getElem?_ge' _ _ hs, List.getElem?_eq_none (by omega)]
theorem indexStr_run {t : TypeId} (hu : P.underlying t = some .string) {l : List UInt8} {j : Nat} {c : UInt8} (hj : l[j]? = some c) (kd : IntKind) :
   (Instr.index t (.string ⟨l.toArray⟩) (.int kd (j : Int))).run P w = .ok (.int .u8 (c.toNat : Int)) w := by
 simp [Instr.index, run_underlying hu, asIntOf, ba_get, hj]
theorem intOp_run {t : TypeId} {op : BinOp} {kd : IntKind} {m n : Int} {Av : Nat → Prop} {K : D → Prop} (hk : intOp op kd m n K) :
   ∃ d v, (binOp op t (.int kd m) (.int kd n)).run P w = .ok v w ∧ VI w Av d v ∧ K d := by
 unfold intOp at hk
 split at hk
 · obtain ⟨r, rfl, hk⟩ := hk; exact ⟨_, _, by simp [binOp, Op.intArith], .k _ _, hk⟩
 · obtain ⟨r, rfl, hk⟩ := hk; exact ⟨_, _, by simp [binOp, Op.intArith], .k _ _, hk⟩
 · obtain ⟨r, rfl, hk⟩ := hk; exact ⟨_, _, by simp [binOp, Op.intArith], .k _ _, hk⟩
 · obtain ⟨hn, r, rfl, hk⟩ := hk; exact ⟨_, _, by simp [binOp, Op.intDiv, hn], .k _ _, hk⟩
 · obtain ⟨hn, r, rfl, hk⟩ := hk; exact ⟨_, _, by simp [binOp, Op.intDiv, hn], .k _ _, hk⟩
 · exact ⟨_, .bool (decide (m = n)), by simp only [binOp]; simp [Op.intCmp]; rfl, .b _, hk⟩
 · exact ⟨_, .bool (!decide (m = n)), by simp only [binOp]; simp [Op.intCmp]; rfl, .b _, hk⟩
 · exact ⟨_, _, by simp [binOp, Op.intCmp], .b _, hk⟩
 · exact ⟨_, _, by simp [binOp, Op.intCmp], .b _, hk⟩
 · exact ⟨_, .bool (decide (m > n)), by simp [binOp, Op.intCmp], .b _, hk⟩
 · exact ⟨_, .bool (decide (m ≥ n)), by simp [binOp, Op.intCmp], .b _, hk⟩
 · obtain ⟨r, hr, hk⟩ := hk; exact ⟨_, _, by simp [binOp, hr], .k _ _, hk⟩
 · obtain ⟨r, hr, hk⟩ := hk; exact ⟨_, _, by simp [binOp, hr], .k _ _, hk⟩
 · exact hk.elim
theorem strOp_run {t : TypeId} {op : BinOp} {x y : List UInt8} {Av : Nat → Prop} {K : D → Prop} (hk : strOp op x y K) :
   ∃ d v, (binOp op t (.string ⟨x.toArray⟩) (.string ⟨y.toArray⟩)).run P w = .ok v w ∧ VI w Av d v ∧ K d := by
 have hb : (x == y) = decide (x = y) := by by_cases h : x = y <;> simp [h]
 unfold strOp at hk
 split at hk
 · obtain ⟨hl, hk⟩ := hk
   refine ⟨_, _, ?_, .s _, hk⟩
   rw [binOp_string_add, run_string_add_sum _ _ _ (by simpa [ByteArray.size] using hl), ByteArray.mk_append_mk]
 · exact ⟨_, _, by simp only [binOp_string_eql, ByteArray.toList_mk, hb, Sem.run_pure], .b _, hk⟩
 · exact ⟨_, _, by simp only [binOp_string_neq, ByteArray.toList_mk, hb, Sem.run_pure], .b _, hk⟩
 · exact ⟨_, _, by simp only [binOp_string_lss, ByteArray.toList_mk, Sem.run_pure], .b _, hk⟩
 · exact ⟨_, _, by simp [binOp, Op.stringOp, hb], .b _, hk⟩
 · exact ⟨_, _, by simp only [binOp, Op.stringOp, ByteArray.toList_mk, hb, Sem.run_pure], .b _, hk⟩
 · exact ⟨_, _, by simp only [binOp, Op.stringOp, ByteArray.toList_mk, Sem.run_pure], .b _, hk⟩
 · exact hk.elim
theorem boolOp_run {t : TypeId} (hu : P.underlying t = some .bool) {op : BinOp} {x y : Bool} {Av : Nat → Prop} {K : D → Prop} (hk : boolOpK op x y K) :
   ∃ d v, (binOp op t (.bool x) (.bool y)).run P w = .ok v w ∧ VI w Av d v ∧ K d := by
 unfold boolOpK at hk
 split at hk
 · exact ⟨_, _, by simp [binOp, Op.equal, Op.maxDepth, run_equalIn_bool' w _ t x y hu], .b _, hk⟩
 · exact ⟨_, _, by simp [binOp, Op.equal, Op.maxDepth, run_equalIn_bool' w _ t x y hu], .b _, hk⟩
 · exact hk.elim
end
end Go.Ab
namespace Go.Ab
open Go Go.RowKit
section
variable {E : Env} {cx : Cx} {tm : Tm} {S : Store} {nx : Nat} {a : Act} {w : World} {ρ : Nat → Option Value} {o : Oper} {K : Kt}
def withName (ρ : Nat → Option Value) (n : Nat) (v : Value) : Nat → Option Value := fun t => if t = n then some v else ρ t
theorem withName_same (n : Nat) (v : Value) : withName ρ n v n = some v := by simp [withName]
theorem withName_other {n m : Nat} (v : Value) (h : m ≠ n) : withName ρ n v m = ρ m := by simp [withName, h]
theorem R.make (h : R E cx tm S a w ρ) (hn : ρ nx = none) {b : Blk} {v : Value} {w' : World} (hf : Fr (fun _ => False) w w') (hb : ∀ x, bk b (some v) x → w.heap.size ≤ x)
   (hs : (∀ d u, VI w (AvS cx.G S ρ) d u → VI w' (AvS cx.G (ap [(nx, some b)] S) (withName ρ nx v)) d u) → (∀ t u, ρ t = some u → withName ρ nx v t = some u) →
     SR E.P w' (AvS cx.G (ap [(nx, some b)] S) (withName ρ nx v)) (withName ρ nx v) nx b) :
   R E cx tm (ap [(nx, some b)] S) a w' (withName ρ nx v) := by
 have ext : ∀ t u, ρ t = some u → withName ρ nx v t = some u := by
  intro t u ht
  have : t ≠ nx := by rintro rfl; rw [hn] at ht; cases ht
  rw [withName_other v this]; exact ht
 have lo : ∀ m c, lk [(nx, some b)] m = some c → m = nx ∧ c = some b := by
  intro m c hm
  rw [lk_cons] at hm
  by_cases e : nx = m
  · rw [if_pos e] at hm; cases hm; exact ⟨e.symm, rfl⟩
  · rw [if_neg e] at hm; simp [lk] at hm
 refine h.turn ⟨hf.weaken fun _ h => h.elim, ext, fun m c hm hv x hx => ?_, fun m m' c c' x h1 h2 _ _ _ _ => ?_, fun hi m c hm => ?_⟩
 · obtain ⟨rfl, e⟩ := lo m _ hm
   cases e
   rw [withName_same] at hx
   exact .inl (hb x hx)
 · rw [(lo m _ h1).1, (lo m' _ h2).1]
 · obtain ⟨rfl, e⟩ := lo m _ hm
   cases e
   exact hs hi ext
theorem fr_alloc (w : World) (o : Obj) : Fr (fun _ => False) w (w.alloc o) := ⟨rfl, rfl, rfl, by simp, fun k hk _ => Below.heap_alloc w o k hk⟩
theorem R.box (h : R E cx tm S a w ρ) (hn : ρ nx = none) (e : TypeId) {cs : List D} {us : List Value} (hc : Cs w (AvS cx.G S ρ) ρ cs us) :
   R E cx tm (ap [(nx, some (.box e cs))] S) a (w.alloc (.cells us.toArray e)) (withName ρ nx (.pointer (some ⟨w.heap.size, 0, none⟩))) ∧
     VR (w.alloc (.cells us.toArray e)) (AvS cx.G (ap [(nx, some (.box e cs))] S) (withName ρ nx (.pointer (some ⟨w.heap.size, 0, none⟩)))) (withName ρ nx (.pointer (some ⟨w.heap.size, 0, none⟩))) (.bp nx 0) (.pointer (some ⟨w.heap.size, 0, none⟩)) := by
 refine ⟨h.make hn (fr_alloc w _) (by intro x hx; simp [bk, blkOf] at hx; omega) (fun hi hr => ?_), .gr (.atom (.bp (withName_same _ _)))⟩
 exact ⟨w.heap.size, us, withName_same _ _, heap_alloc_new w _, hc.len, hc.one, fun i d u p q => (hc.at_ i d u p q).mono hi hr⟩
theorem R.own (h : R E cx tm S a w ρ) (hn : ρ nx = none) {e : TypeId} {xs : List (List D)} {us : List Value} (hr : Rows (VI w (AvS cx.G S ρ)) (E.P.cellsOf e) xs us) {u : Value} {w' : World}
   (hf : Fr (fun _ => False) w w') (ho : w'.ownsRow w.heap.size e (E.P.cellsOf e) u xs.length us) :
   R E cx tm (ap [(nx, some (.own e xs))] S) a w' (withName ρ nx u) ∧ VR w' (AvS cx.G (ap [(nx, some (.own e xs))] S) (withName ρ nx u)) (withName ρ nx u) (.own nx) u := by
 have ho' : w'.ownsRow 0 e (E.P.cellsOf e) u xs.length us := by
  refine ⟨ho.1, ?_⟩
  rcases ho.2 with h1 | ⟨g, cap, cur, h1, _, h2⟩
  · exact .inl h1
  · exact .inr ⟨g, cap, cur, h1, Nat.zero_le _, h2⟩
 have h1 : u.oneCell' = true := by rcases ho.2 with ⟨rfl, _⟩ | ⟨g, cap, cur, rfl, _⟩ <;> rfl
 have hb : ∀ x, blkOf u = some x → w.heap.size ≤ x := by
  intro x hx
  rcases ho.2 with ⟨rfl, _⟩ | ⟨g, cap, cur, rfl, hg, _⟩
  · simp [blkOf] at hx
  · simp [blkOf] at hx; omega
 exact ⟨h.make hn hf hb fun hi hr' => ⟨u, us, withName_same _ _, ho', hr.mono hi⟩, .gr (.atom (.own (nmv_of (withName_same _ _) (top_row ho)) h1))⟩
theorem lk_one {n m : Nat} {o : Option Blk} (h : lk [(n, o)] m ≠ none) : m = n := by
 rw [lk_cons] at h
 by_cases e : n = m
 · exact e.symm
 · rw [if_neg e] at h; simp [lk] at h
theorem lk_ap_one' {n : Nat} {b : Blk} {S : Store} (m : Nat) : lk ((n, b) :: S) m = lk (ap [(n, some b)] S) m := by
 rw [lk_ap, lk_cons, lk_cons]
 by_cases e : n = m
 · simp [e]
 · simp [e, lk]
theorem Ok1.one {b : Blk} {d : D} (hk : K (fpN nx) (put o.dst d tm) ((nx, b) :: S) (nx + 1))
   (hs : ∀ (cx : Cx) (tm' : Tm) (S' : Store) (a : Act) (w : World) (ρ : Nat → Option Value), (∀ x ∈ o.op.operands, ev E.gl tm' x = ev E.gl tm x) → R E cx tm' S' a w ρ → ρ nx = none →
     ∃ v w' u, (execOp a.eval o).run E.P w = .ok (.value v) w' ∧ R E cx tm' (ap [(nx, some b)] S') a w' (withName ρ nx u) ∧ VR w' (AvS cx.G (ap [(nx, some b)] S') (withName ρ nx u)) (withName ρ nx u) d v) : Ok1 E o tm S nx K := by
 refine Ok1.val (fp := fpN nx) (out := [(nx, some b)]) (nx' := nx + 1) (d := d) (fun n h => by simp [fpN, lk_one h]) (fun n h => h) (Nat.le_succ _) (fun n h1 h2 => by simp [fpN]; omega) (fun n => lk_ap_one' n) hk ?_
 intro cx tm' S' a w ρ he hf h hn
 obtain ⟨v, w', u, e1, e2, e3⟩ := hs cx tm' S' a w ρ he h (hn nx (Nat.le_refl _) (Nat.lt_succ_self _))
 exact ⟨v, w', _, e1, e2, e3, fun n hne => withName_other u (by rintro rfl; exact hne ⟨Nat.le_refl _, Nat.lt_succ_self _⟩)⟩
theorem ok_move {x : Operand} (ho : o.op = .move x ∨ o.op = .assign x) {d : D} (hx : ev E.gl tm x = some d) (hk : K fp0 (put o.dst d tm) S nx) : Ok1 E o tm S nx K := by
 refine Ok1.pure (fp := []) hk fun cx tm' S' a w ρ he _ h => ⟨a.eval x, ?_, h.eval ((he x ?_).trans hx)⟩
 · rcases ho with ho | ho <;> simp [execOp, ho]
 · rcases ho with ho | ho <;> simp [ho, Op.operands]
theorem ok_nil {x : Operand} (ho : o.op = .assign x) (hx : ev E.gl tm x = some .nil) {e : TypeId}
   (hk : K (fpN nx) (put o.dst (.own nx) tm) ((nx, .own e []) :: S) (nx + 1)) : Ok1 E o tm S nx K := by
 refine Ok1.one hk fun cx tm' S' a w ρ he h hn => ?_
 have hv : a.eval x = .slice none 0 0 := (h.eval ((he x (by simp [ho, Op.operands])).trans hx)).nil_inv
 obtain ⟨h', hv'⟩ := h.own hn (e := e) (xs := []) (us := []) (u := .slice none 0 0) (w' := w) ⟨by simp, by simp, by simp, by simp⟩ (Fr.refl _ w) (World.ownsRow_nil _ _ _ _)
 exact ⟨_, _, _, by simp [execOp, ho, hv], h', hv'⟩
theorem ok_pick {c x y : Operand} (ho : o.op = .pick c x y) {z : Bool} (hc : ev E.gl tm c = some (.b z)) {d : D} (hx : ev E.gl tm (if z then x else y) = some d) (hk : K fp0 (put o.dst d tm) S nx) : Ok1 E o tm S nx K := by
 refine Ok1.pure (fp := []) hk fun cx tm' S' a w ρ he _ h => ?_
 have hv := (h.eval ((he c (by simp [ho, Op.operands])).trans hc)).b_inv
 refine ⟨a.eval (if z then x else y), ?_, h.eval ((he _ ?_).trans hx)⟩
 · cases z <;> simp [execOp, ho, hv, asBool]
 · cases z <;> simp [ho, Op.operands]
theorem ok_box {e : TypeId} {x : Operand} (ho : o.op = .box e x) {d : D} (hx : ev E.gl tm x = some d) (ht : isTup d = false)
   (hk : K (fpN nx) (put o.dst (.bp nx 0) tm) ((nx, .box e (cellsOf d)) :: S) (nx + 1)) : Ok1 E o tm S nx K := by
 refine Ok1.one hk fun cx tm' S' a w ρ he h hn => ?_
 have hc := ((h.eval ((he x (by simp [ho, Op.operands])).trans hx)).vg ht).cells
 obtain ⟨h', hv'⟩ := h.box hn e hc
 exact ⟨_, _, _, by simp [execOp, ho, Instr.box, newVar, newRow], h', hv'⟩
theorem ok_alloc (hty : TyOk E) {e : TypeId} (ho : o.op = .alloc e) {td : TD} (ht : E.ty e = some td)
   (hk : K (fpN nx) (put o.dst (.bp nx 0) tm) ((nx, .box e (cellsOf td.zero)) :: S) (nx + 1)) : Ok1 E o tm S nx K := by
 refine Ok1.one hk fun cx tm' S' a w ρ he h hn => ?_
 obtain ⟨v, hz, hc⟩ := zero_run hty (w := w) ht
 obtain ⟨h', hv'⟩ := h.box hn e (zeroChk_cells (w := w) (Av := AvS cx.G S' ρ) (ρ := ρ) hc).1
 exact ⟨_, _, _, by simp [execOp, ho, Instr.alloc, hz, newVar, newRow], h', hv'⟩
theorem addrK_agree {S' : Store} {d : D} {td : TD} {K : D → Prop} (hf : ∀ n ∈ nmD d, lk S' n = lk S n) (hk : addrK E S d td K) : addrK E S' d td K := by
 unfold addrK at hk ⊢
 cases d with
 | bp n off => simp only at hk ⊢; rw [hf n (by simp [nmD, nmA])]; exact hk
 | op n sz i off => simp only at hk ⊢; rw [hf n (by simp [nmD, nmA])]; exact hk
 | ep cs => exact hk
 | _ => exact hk
theorem indexK_agree {S' : Store} {d : D} {e : TypeId} {z : Nat} {i : Int} {K : D → Prop} (hf : ∀ n ∈ nmD d, lk S' n = lk S n) (hk : indexK S d e z i K) : indexK S' d e z i K := by
 unfold indexK at hk ⊢
 cases d with
 | own n => simp only at hk ⊢; rw [hf n (by simp [nmD, nmA])]; exact hk
 | sl xs => exact hk
 | _ => exact hk
theorem lenK_agree {S' : Store} {kd : TK} {d : D} {K : Int → Prop} (hf : ∀ n ∈ nmD d, lk S' n = lk S n) (hk : lenK kd S d K) : lenK kd S' d K := by
 unfold lenK at hk ⊢
 cases kd with
 | slice e =>
   cases d with
   | own n => simp only at hk ⊢; rw [hf n (by simp [nmD, nmA])]; exact hk
   | _ => exact hk
 | _ => exact hk
theorem loadK_ex {td : TD} {cs : List D} {K : D → Prop} (h : loadK td cs K) : ∃ d, (∀ K' : D → Prop, K' d → loadK td cs K') ∧ K d := by
 unfold loadK at h ⊢
 split at h
 · split at h
   · exact ⟨_, fun K' h => by simpa using h, h⟩
   · exact h.elim
 · split at h
   · exact ⟨_, fun K' h => by simpa using h, h⟩
   · exact h.elim
theorem szK_ex {e : TypeId} {sz : Nat} {K : Prop} (h : szK E e sz K) : (∀ K' : Prop, K' → szK E e sz K') ∧ K := by
 obtain ⟨te, h1, h2, h3⟩ := szK_inv h
 refine ⟨fun K' h => ?_, h3⟩
 unfold szK
 rw [h1]
 simp only [h2, Nat.beq_refl]
 exact h
theorem addrK_ex {d : D} {td : TD} {K : D → Prop} (h : addrK E S d td K) : ∃ d', (∀ K' : D → Prop, K' d' → addrK E S d td K') ∧ K d' := by
 unfold addrK at h ⊢
 cases d with
 | bp n off =>
   simp only at h ⊢
   cases hl : lk S n with
   | none => rw [hl] at h; exact h.elim
   | some b => rw [hl] at h; cases b <;> first | exact loadK_ex h | exact h.elim
 | ep cs => exact loadK_ex h
 | op n sz i off =>
   simp only at h ⊢
   have key : ∀ (e : TypeId) (xs : List (List D)), szK E e sz (∃ cs, xs[i]? = some cs ∧ loadK td (cs.drop off) K) → ∃ d', (∀ K' : D → Prop, K' d' → szK E e sz (∃ cs, xs[i]? = some cs ∧ loadK td (cs.drop off) K')) ∧ K d' := by
    intro e xs h
    obtain ⟨h1, cs, h2, h3⟩ := szK_ex h
    obtain ⟨d', h4, h5⟩ := loadK_ex h3
    exact ⟨d', fun K' hK => h1 _ ⟨cs, h2, h4 K' hK⟩, h5⟩
   cases hl : lk S n with
   | none => rw [hl] at h; exact h.elim
   | some b => rw [hl] at h; cases b <;> first | exact key _ _ h | exact h.elim
 | _ => exact h.elim
theorem indexK_ex {d : D} {e : TypeId} {z : Nat} {i : Int} {K : D → Prop} (h : indexK S d e z i K) : ∃ d', (∀ K' : D → Prop, K' d' → indexK S d e z i K') ∧ K d' := by
 unfold indexK at h ⊢
 cases d with
 | sl xs => obtain ⟨j, cs, h1, h2, h3, h4⟩ := h; exact ⟨_, fun K' hK => ⟨j, cs, h1, h2, h3, hK⟩, h4⟩
 | own n =>
   simp only at h ⊢
   cases hl : lk S n with
   | none => rw [hl] at h; exact h.elim
   | some b =>
     rw [hl] at h
     cases b with
     | box => exact h.elim
     | fr xs => obtain ⟨j, cs, h1, h2, h3, h4⟩ := h; exact ⟨_, fun K' hK => ⟨j, cs, h1, h2, h3, hK⟩, h4⟩
     | own e' xs =>
       simp only at h ⊢
       cases hb : Nat.beq e e' with
       | true => rw [hb] at h; obtain ⟨j, h1, h2, h3⟩ := h; exact ⟨_, fun K' hK => ⟨j, h1, h2, hK⟩, h3⟩
       | false => rw [hb] at h; exact h.elim
     | row e' xs =>
       simp only at h ⊢
       cases hb : Nat.beq e e' with
       | true => rw [hb] at h; obtain ⟨j, h1, h2, h3⟩ := h; exact ⟨_, fun K' hK => ⟨j, h1, h2, hK⟩, h3⟩
       | false => rw [hb] at h; exact h.elim
     | deep e' e2 xs =>
       simp only at h ⊢
       cases hb : Nat.beq e e' with
       | true => rw [hb] at h; obtain ⟨j, h1, h2, h3⟩ := h; exact ⟨_, fun K' hK => ⟨j, h1, h2, hK⟩, h3⟩
       | false => rw [hb] at h; exact h.elim
 | _ => exact h.elim
theorem fieldK_ex {pl : List (Nat × Nat)} {i : Nat} {d : D} {K : D → Prop} (h : fieldK pl i d K) : ∃ d', (∀ K' : D → Prop, K' d' → fieldK pl i d K') ∧ K d' := by
 unfold fieldK at h ⊢
 cases hp : pl[i]? with
 | none => rw [hp] at h; exact h.elim
 | some p =>
   obtain ⟨o, z⟩ := p
   rw [hp] at h
   simp only at h ⊢
   cases hz : Nat.blt 0 z with
   | false => rw [hz] at h; exact h.elim
   | true => rw [hz] at h; cases d <;> first | exact ⟨_, fun _ h => h, h⟩ | exact h.elim
theorem ok_load (hty : TyOk E) {t : TypeId} {x : Operand} (ho : o.op = .load t x) {d : D} (hx : ev E.gl tm x = some d) {td : TD} (ht : E.ty t = some td)
   (hk : addrK E S d td fun d' => K (fpR d) (put o.dst d' tm) S nx) : Ok1 E o tm S nx K := by
 obtain ⟨d', h1, h2⟩ := addrK_ex hk
 refine Ok1.pure (fp := nmD d) h2 fun cx tm' S' a w ρ he hf h => ?_
 obtain ⟨d2, u, hrun, hg, rfl⟩ := addrK_run hty h ht (h.eval ((he x (by simp [ho, Op.operands])).trans hx)) (addrK_agree hf (h1 (fun x => x = d') rfl))
 exact ⟨u, by simp [execOp, ho, hrun], .gr hg⟩
theorem ok_fieldAddr (hty : TyOk E) {t : TypeId} {x : Operand} {f : Nat} (ho : o.op = .fieldAddr t x f) {d : D} (hx : ev E.gl tm x = some d) {td : TD} (ht : E.ty t = some td) {pl : List (Nat × Nat)} (hp : td.kind = .struct pl)
   (hk : fieldK pl f d fun d' => K fp0 (put o.dst d' tm) S nx) : Ok1 E o tm S nx K := by
 obtain ⟨d', h1, h2⟩ := fieldK_ex hk
 refine Ok1.pure (fp := []) h2 fun cx tm' S' a w ρ he hf h => ?_
 have hkc := hty.kind ht
 rw [hp] at hkc
 obtain ⟨d2, u, hrun, hg, rfl⟩ := fieldK_run h hkc (h.eval ((he x (by simp [ho, Op.operands])).trans hx)) (h1 (fun x => x = d') rfl)
 exact ⟨u, by simp [execOp, ho, hrun], hg⟩
theorem ok_indexAddr (hty : TyOk E) {t : TypeId} {x i : Operand} (ho : o.op = .indexAddr t x i) {d : D} (hx : ev E.gl tm x = some d) {kd : IntKind} {n : Int} (hi : ev E.gl tm i = some (.k kd n)) {td te : TD} {e : TypeId} (ht : E.ty t = some td) (hp : td.kind = .slice e) (hte : E.ty e = some te)
   (hk : indexK S d e te.size n fun d' => K (fpR d) (put o.dst d' tm) S nx) : Ok1 E o tm S nx K := by
 obtain ⟨d', h1, h2⟩ := indexK_ex hk
 refine Ok1.pure (fp := nmD d) h2 fun cx tm' S' a w ρ he hf h => ?_
 have hkc := hty.kind ht
 rw [hp] at hkc
 obtain ⟨d2, u, hrun, hg, rfl⟩ := indexK_run hty h (kind_slice hkc) hte (h.eval ((he x (by simp [ho, Op.operands])).trans hx)) (kd := kd) (indexK_agree hf (h1 (fun x => x = d') rfl))
 have hiv := (h.eval ((he i (by simp [ho, Op.operands])).trans hi)).k_inv
 exact ⟨u, by simp [execOp, ho, hiv, hrun], hg⟩
theorem ok_indexArr (hty : TyOk E) {t : TypeId} {x i : Operand} (ho : o.op = .indexAddr t x i) {cs : List D} (hx : ev E.gl tm x = some (.ep cs)) {kd : IntKind} {j : Nat} (hi : ev E.gl tm i = some (.k kd (j : Int))) {td te : TD} {e : TypeId} {m : Nat} (ht : E.ty t = some td) (hp : td.kind = .parr m e) (hte : E.ty e = some te)
   (hz : te.size = 1) (hj : j < m) {c : D} (hc : cs[j]? = some c) (hk : K fp0 (put o.dst (.ep [c]) tm) S nx) : Ok1 E o tm S nx K := by
 refine Ok1.pure (fp := []) hk fun cx tm' S' a w ρ he hf h => ?_
 have hkc := hty.kind ht
 rw [hp] at hkc
 obtain ⟨ad, hv, hb, hav, hcell⟩ := (h.eval ((he x (by simp [ho, Op.operands])).trans hx)).ep_inv.ep_inv
 have hiv := (h.eval ((he i (by simp [ho, Op.operands])).trans hi)).k_inv
 have hrun := indexArr_run (kind_parr hkc) (sizeOf_run hty (w := w) hte) ad hj kd
 rw [hz, Nat.mul_one] at hrun
 refine ⟨.pointer (some (ad.add j)), by simp [execOp, ho, hiv, hv, hrun], ?_⟩
 obtain ⟨u, e1, e2, e3⟩ := hcell j c hc
 refine .gr (.atom (.im (.ep (fun _ => u) (by rw [add_block]; exact hb) (by rw [add_block]; exact hav) (fun k d hd => ?_) (fun k d hd => e2) (fun k d hd => ?_))))
 · cases k with
   | zero => exact e1
   | succ k => simp at hd
 · cases k with
   | zero => simp at hd; subst hd; exact e3
   | succ k => simp at hd
theorem ok_index (hty : TyOk E) {t : TypeId} {x i : Operand} (ho : o.op = .index t x i) {l : List UInt8} (hx : ev E.gl tm x = some (.s l)) {kd : IntKind} {j : Nat} (hi : ev E.gl tm i = some (.k kd (j : Int))) {td : TD} (ht : E.ty t = some td) (hp : td.kind = .str)
   {c : UInt8} (hc : l[j]? = some c) (hk : K fp0 (put o.dst (.k .u8 (c.toNat : Int)) tm) S nx) : Ok1 E o tm S nx K := by
 refine Ok1.pure (fp := []) hk fun cx tm' S' a w ρ he hf h => ?_
 have hkc := hty.kind ht
 rw [hp] at hkc
 have hv := (h.eval ((he x (by simp [ho, Op.operands])).trans hx)).s_inv
 have hiv := (h.eval ((he i (by simp [ho, Op.operands])).trans hi)).k_inv
 exact ⟨_, by simp [execOp, ho, hiv, hv, indexStr_run (kind_str hkc) hc], .gr (.atom (.im (.k _ _)))⟩
end
end Go.Ab
namespace Go.Ab
open Go Go.RowKit
section
variable {P : Program} {w : World}
theorem eqA_fits {Av : Nat → Prop} {ρ : Nat → Option Value} {c : Nat} {d e : D} {u v : Value} {x : Bool} (h : eqA c d e = some x) (hu : VA w Av ρ d u) (hv : VA w Av ρ e v) :
   (c = 0 ∧ ∃ a b, u = .bool a ∧ v = .bool b ∧ x = (a == b)) ∨ (c = 1 ∧ ∃ k m n, u = .int k m ∧ v = .int k n ∧ x = (m == n)) ∨ (c = 2 ∧ ∃ s t : ByteArray, u = .string s ∧ v = .string t ∧ x = (s.toList == t.toList)) := by
 unfold eqA at h
 split at h
 · cases h
   cases hu with | im hu => cases hv with | im hv => cases hu; cases hv; exact .inl ⟨rfl, _, _, rfl, rfl, rfl⟩
 · split at h
   · rename_i hk
     cases h
     have := of_decide_eq_true hk
     subst this
     cases hu with | im hu => cases hv with | im hv => cases hu; cases hv; exact .inr (.inl ⟨rfl, _, _, _, rfl, rfl, rfl⟩)
   · cases h
 · cases h
   cases hu with | im hu => cases hv with | im hv =>
    cases hu; cases hv
    refine .inr (.inr ⟨rfl, _, _, rfl, rfl, ?_⟩)
    rw [ByteArray.toList_mk, ByteArray.toList_mk]
    rename_i l l'
    by_cases e : l = l' <;> simp [e]
 · cases h
theorem eqAs_append : ∀ {c1 c2 : List Nat} {ds es : List D} {x : Bool}, eqAs (c1 ++ c2) ds es = some x → ∃ x1 x2, eqAs c1 (ds.take c1.length) (es.take c1.length) = some x1 ∧ eqAs c2 (ds.drop c1.length) (es.drop c1.length) = some x2 ∧ x = (x1 && x2) ∧ ds.length = c1.length + c2.length ∧ es.length = c1.length + c2.length
 | [], c2, ds, es, x, h => by
   have hl : ∀ (c : List Nat) (ds es : List D) (x : Bool), eqAs c ds es = some x → ds.length = c.length ∧ es.length = c.length := by
    intro c
    induction c with
    | nil => intro ds es x h; cases ds <;> cases es <;> simp [eqAs] at h ⊢
    | cons a r ih =>
      intro ds es x h
      cases ds with
      | nil => cases es <;> simp [eqAs] at h
      | cons d ds =>
        cases es with
        | nil => simp [eqAs] at h
        | cons e es =>
          simp only [eqAs] at h
          split at h
          · split at h
            · rename_i h2
              have := ih _ _ _ h2
              simp [this.1, this.2]
            · cases h
          · cases h
   have := hl c2 ds es x h
   exact ⟨true, x, rfl, by simpa using h, by simp, by simp [this.1], by simp [this.2]⟩
 | a :: c1, c2, [], es, x, h => by cases es <;> simp [eqAs] at h
 | a :: c1, c2, d :: ds, [], x, h => by simp [eqAs] at h
 | a :: c1, c2, d :: ds, e :: es, x, h => by
   simp only [List.cons_append, eqAs] at h
   split at h
   · rename_i e1 he1
     split at h
     · rename_i e2 he2
       cases h
       obtain ⟨x1, x2, h1, h2, h3, h4, h5⟩ := eqAs_append he2
       refine ⟨e1 && x1, x2, ?_, h2, by rw [h3, Bool.and_assoc], by simp [h4]; omega, by simp [h5]; omega⟩
       simp [eqAs, he1, h1]
     · cases h
   · cases h
def pv (P : Program) (t : TypeId) (us : List Value) : Value :=
 match P.underlying t with
 | some (.struct _) => .agg us.toArray
 | _ => us.headD undef
theorem part_run {t : TypeId} {n off : Nat} (hz : P.cellsOf t = n) (hn : 0 < n) {us : List Value} (hl : off + n ≤ us.length) (hna : ∀ m e, P.underlying t ≠ some (.array m e)) (hs : ∃ d, P.underlying t = some d) :
   (part t us.toArray off).run P w = .ok (pv P t ((us.drop off).take n)) w := by
 obtain ⟨d, hd⟩ := hs
 have hsz := sizeOf_cells hz hn w
 have hlt : off < us.length := by omega
 have head : ((us.drop off).take n).headD undef = us[off] := by
  cases n with
  | zero => omega
  | succ n => rw [List.drop_eq_getElem_cons hlt]; rfl
 unfold part pv
 rw [hd]
 cases d <;> first
  | (exact absurd hd (hna _ _))
  | (simp only [Sem.run_bind, isAgg, run_underlying hd, Result.andThen_ok, Sem.run_pure, hsz, if_true]
     congr 2
     apply Array.ext'
     simp [List.extract_eq_take_drop])
  | (simp only [head]; simp [Sem.run_bind, isAgg, run_underlying hd, Result.andThen_ok, Sem.run_pure, hlt]; done)
theorem eqCodes_len {d : Nat} {t : TypeId} {c : List Nat} (h : eqCodes P d t = some c) : (∀ m e, P.underlying t ≠ some (.array m e)) ∧ (∃ d, P.underlying t = some d) := by
 cases d with
 | zero => simp [eqCodes] at h
 | succ d =>
   unfold eqCodes at h
   split at h
   · rename_i hu; exact ⟨fun m e h => by (rw [hu] at h; cases h), _, hu⟩
   · rename_i hu; exact ⟨fun m e h => by (rw [hu] at h; cases h), _, hu⟩
   · rename_i hu; exact ⟨fun m e h => by (rw [hu] at h; cases h), _, hu⟩
   · rename_i hu; exact ⟨fun m e h => by (rw [hu] at h; cases h), _, hu⟩
   · cases h
theorem equalIn_plain {Av : Nat → Prop} {ρ : Nat → Option Value} : ∀ (d : Nat) (t : TypeId) (c : List Nat) (k : Nat) (ds es : List D) (us vs : List Value) (x : Bool), eqCodes P d t = some c → ds.length = us.length → es.length = vs.length →
   (∀ (i : Nat) (d : D) (u : Value), ds[i]? = some d → us[i]? = some u → VA w Av ρ d u) → (∀ (i : Nat) (d : D) (u : Value), es[i]? = some d → vs[i]? = some u → VA w Av ρ d u) →
   eqAs c ds es = some x → (Op.equalIn (d + k) t (pv P t us) (pv P t vs)).run P w = .ok x w := by
 intro d
 induction d with
 | zero => intro t c k ds es us vs x h; simp [eqCodes] at h
 | succ d ih =>
   intro t c k ds es us vs x h hl1 hl2 hr1 hr2 hx
   have hdk : d + 1 + k = (d + k) + 1 := by omega
   rw [hdk]
   have scal : ∀ a, c = [a] → ∃ d1 e1 u1 v1, ds = [d1] ∧ es = [e1] ∧ us = [u1] ∧ vs = [v1] ∧ eqA a d1 e1 = some x ∧ VA w Av ρ d1 u1 ∧ VA w Av ρ e1 v1 := by
    intro a hc
    subst hc
    match ds, es, us, vs, hl1, hl2, hr1, hr2, hx with
    | [], [], _, _, _, _, _, _, hx => simp [eqAs] at hx
    | [], _ :: _, _, _, _, _, _, _, hx => simp [eqAs] at hx
    | _ :: _, [], _, _, _, _, _, _, hx => simp [eqAs] at hx
    | [d1], [e1], [u1], [v1], _, _, hr1, hr2, hx =>
      simp only [eqAs] at hx
      split at hx
      · rename_i y hy
        simp at hx
        subst hx
        exact ⟨d1, e1, u1, v1, rfl, rfl, rfl, rfl, hy, hr1 0 d1 u1 rfl rfl, hr2 0 e1 v1 rfl rfl⟩
      · cases hx
    | [_], [_], [], _, hl, _, _, _, _ => simp at hl
    | [_], [_], _ :: _ :: _, _, hl, _, _, _, _ => simp at hl
    | [_], [_], [_], [], _, hl, _, _, _ => simp at hl
    | [_], [_], [_], _ :: _ :: _, _, hl, _, _, _ => simp at hl
    | _ :: _ :: _, [_], _, _, _, _, _, _, hx => simp only [eqAs] at hx; split at hx <;> cases hx
    | [_], _ :: _ :: _, _, _, _, _, _, _, hx => simp only [eqAs] at hx; split at hx <;> cases hx
    | _ :: _ :: _, _ :: _ :: _, _, _, _, _, _, _, hx => simp only [eqAs] at hx; split at hx <;> cases hx
   unfold eqCodes at h
   split at h
   · rename_i hu
     split at h
     · cases h
       obtain ⟨d1, e1, u1, v1, rfl, rfl, rfl, rfl, h1, h2, h3⟩ := scal 2 rfl
       rcases eqA_fits h1 h2 h3 with ⟨e, _⟩ | ⟨e, _⟩ | ⟨_, s, s', rfl, rfl, rfl⟩
       · cases e
       · cases e
       · simp only [pv, hu, List.headD_cons]
         exact run_equalIn_string w _ t s s' hu
     · cases h
   · rename_i hu
     split at h
     · cases h
       obtain ⟨d1, e1, u1, v1, rfl, rfl, rfl, rfl, h1, h2, h3⟩ := scal 0 rfl
       rcases eqA_fits h1 h2 h3 with ⟨_, a, b, rfl, rfl, rfl⟩ | ⟨e, _⟩ | ⟨e, _⟩
       · simp only [pv, hu, List.headD_cons]
         exact run_equalIn_bool' w _ t a b hu
       · cases e
       · cases e
     · cases h
   · rename_i kd hu
     split at h
     · cases h
       obtain ⟨d1, e1, u1, v1, rfl, rfl, rfl, rfl, h1, h2, h3⟩ := scal 1 rfl
       rcases eqA_fits h1 h2 h3 with ⟨e, _⟩ | ⟨_, k', m, n, rfl, rfl, rfl⟩ | ⟨e, _⟩
       · cases e
       · simp only [pv, hu, List.headD_cons]
         simp [Op.equalIn, run_underlying hu]
       · cases e
     · cases h
   · rename_i fs hu
     split at h
     · cases h
     · rename_i hp
       have hfo : P.fieldsOf t = fs := by simp [Program.fieldsOf, hu]
       simp only [pv, hu]
       rw [run_equalIn_struct w _ t _ _ (by rw [hfo]; exact hu) (by simpa using hp), hfo]
       have key : ∀ (fs : List Field) (off : Nat) (c : List Nat) (x : Bool), eqFields P (eqCodes P d) fs off (P.cellsOf t) = some c → eqAs c (ds.drop off) (es.drop off) = some x →
          (Op.eqFields (d + k) us.toArray vs.toArray fs).run P w = .ok x w := by
        intro fs
        induction fs with
        | nil =>
          intro off c x h hx
          simp only [eqFields] at h
          split at h
          · cases h
            cases hd : ds.drop off with
            | nil =>
              cases he : es.drop off with
              | nil => rw [hd, he] at hx; simp [eqAs] at hx; subst hx; simp [Op.eqFields]
              | cons => rw [hd, he] at hx; simp [eqAs] at hx
            | cons => rw [hd] at hx; cases he : es.drop off <;> rw [he] at hx <;> simp [eqAs] at hx
          · cases h
        | cons f r ihf =>
          intro off c x h hx
          simp only [eqFields] at h
          split at h
          · rename_i c1 hb hc1
            simp only [Bool.and_eq_true] at hb
            obtain ⟨⟨hn, ho⟩, hpos⟩ := hb
            split at h
            · rename_i c2 hc2
              split at h
              · rename_i hlen
                cases h
                have hlen := Nat.eq_of_beq_eq_true hlen
                have ho := Nat.eq_of_beq_eq_true ho
                have hpos : 0 < P.cellsOf f.type := Nat.le_of_ble_eq_true hpos
                obtain ⟨x1, x2, h1, h2, h3, h4, h5⟩ := eqAs_append hx
                have hnm : f.name ≠ "_" := by simpa using hn
                have hu1 := eqCodes_len hc1
                rw [hlen] at h1 h2
                simp only [List.length_drop] at h4 h5
                have p1 := part_run (w := w) rfl hpos (us := us) (off := off) (by rw [← hl1]; omega) hu1.1 hu1.2
                have p2 := part_run (w := w) rfl hpos (us := vs) (off := off) (by rw [← hl2]; omega) hu1.1 hu1.2
                have cut : ∀ (ds : List D) (us : List Value), ds.length = us.length → (∀ (i : Nat) (d : D) (u : Value), ds[i]? = some d → us[i]? = some u → VA w Av ρ d u) →
                   ((ds.drop off).take (P.cellsOf f.type)).length = ((us.drop off).take (P.cellsOf f.type)).length ∧ ∀ (i : Nat) (d : D) (u : Value), ((ds.drop off).take (P.cellsOf f.type))[i]? = some d → ((us.drop off).take (P.cellsOf f.type))[i]? = some u → VA w Av ρ d u := by
                 intro ds us hl hr
                 refine ⟨by simp [hl], fun i d u a b => ?_⟩
                 rw [List.getElem?_take] at a b
                 split at a
                 · rename_i hi
                   rw [if_pos hi] at b
                   rw [List.getElem?_drop] at a b
                   exact hr _ d u a b
                 · cases a
                obtain ⟨q1, q2⟩ := cut ds us hl1 hr1
                obtain ⟨q3, q4⟩ := cut es vs hl2 hr2
                have heq := ih f.type c1 k _ _ _ _ x1 hc1 q1 q3 q2 q4 h1
                have hrest := ihf (off + P.cellsOf f.type) c2 x2 hc2 (by simpa [List.drop_drop] using h2)
                rw [Op.eqFields, if_pos hnm, ho]
                simp only [Sem.run_bind, p1, p2, Result.andThen_ok, heq]
                subst h3
                cases x1
                · simp
                · simpa using hrest
              · cases h
            · cases h
          · cases h
       exact key fs.toList 0 c x h (by simpa using hx)
   · cases h
end
section
variable {E : Env} {tm : Tm} {S : Store} {nx : Nat} {o : Oper} {K : Kt}
theorem VR.agg_inv {w : World} {Av : Nat → Prop} {ρ : Nat → Option Value} {ds : List D} {v : Value} (h : VR w Av ρ (.agg ds) v) : ∃ us : List Value, v = .agg us.toArray ∧ ds.length = us.length ∧ (∀ u ∈ us, u.oneCell' = true) ∧ ∀ (i : Nat) (d : D) (u : Value), ds[i]? = some d → us[i]? = some u → VA w Av ρ d u := by
 cases h with
 | gr h =>
   cases h with
   | atom h => cases h with | im h => cases h with | agg hl h1 hr => exact ⟨_, rfl, hl, h1, fun i d u a b => .im (hr i d u a b)⟩
   | agg hl h1 hr => exact ⟨_, rfl, hl, h1, hr⟩
theorem ok_bin {op : BinOp} {t yt : TypeId} {x y : Operand} (ho : o.op = .binOp op t x y yt) {dx dy d : D} (hx : ev E.gl tm x = some dx) (hy : ev E.gl tm y = some dy) (hk : K fp0 (put o.dst d tm) S nx)
   (hrun : ∀ (w : World) (Av : Nat → Prop) (ρ : Nat → Option Value) (u v : Value), VR w Av ρ dx u → VR w Av ρ dy v → (eqGuard op t x y u v).run E.P w = .ok () w ∧ ∃ r, (binOp op t u v).run E.P w = .ok r w ∧ VI w Av d r) : Ok1 E o tm S nx K := by
 refine Ok1.pure (fp := []) hk fun cx tm' S' a w ρ he _ h => ?_
 obtain ⟨e1, r, e2, e3⟩ := hrun w (AvS cx.G S' ρ) ρ _ _ (h.eval ((he x (by simp [ho, Op.operands])).trans hx)) (h.eval ((he y (by simp [ho, Op.operands])).trans hy))
 exact ⟨r, by simp [execOp, ho, e1, e2], .gr (.atom (.im e3))⟩
theorem intOp_ex {op : BinOp} {kd : IntKind} {m n : Int} {K : D → Prop} (hk : intOp op kd m n K) : ∃ d, (∀ K' : D → Prop, K' d → intOp op kd m n K') ∧ K d := by
 unfold intOp at hk ⊢
 cases op <;> first
  | (obtain ⟨r, h1, h2⟩ := hk; exact ⟨_, fun K' h => ⟨r, h1, h⟩, h2⟩)
  | (obtain ⟨h0, r, h1, h2⟩ := hk; exact ⟨_, fun K' h => ⟨h0, r, h1, h⟩, h2⟩)
  | exact ⟨_, fun K' h => h, hk⟩
  | exact hk.elim
theorem strOp_ex {op : BinOp} {a b : List UInt8} {K : D → Prop} (hk : strOp op a b K) : ∃ d, (∀ K' : D → Prop, K' d → strOp op a b K') ∧ K d := by
 unfold strOp at hk ⊢
 cases op <;> first
  | exact ⟨_, fun K' h => h, hk⟩
  | (obtain ⟨h1, h2⟩ := hk; exact ⟨_, fun K' h => ⟨h1, h⟩, h2⟩)
  | exact hk.elim
theorem eqGuard_plain {P : Program} {w : World} (op : BinOp) (t : TypeId) (x y : Operand) (u v : Value) (h : (∃ k n, u = .int k n) ∨ (∃ s, u = .string s) ∨ ∃ b, u = .bool b) : (eqGuard op t x y u v).run P w = .ok () w := by
 rcases h with ⟨k, n, rfl⟩ | ⟨s, rfl⟩ | ⟨b, rfl⟩ <;> cases op <;> simp [eqGuard]
theorem ok_int {op : BinOp} {t yt : TypeId} {x y : Operand} (ho : o.op = .binOp op t x y yt) {kd : IntKind} {m n : Int} (hx : ev E.gl tm x = some (.k kd m)) (hy : ev E.gl tm y = some (.k kd n))
   (hk : intOp op kd m n fun d => K fp0 (put o.dst d tm) S nx) : Ok1 E o tm S nx K := by
 obtain ⟨d, h1, h2⟩ := intOp_ex hk
 refine ok_bin ho hx hy h2 fun w Av ρ u v hu hv => ?_
 obtain rfl := hu.k_inv
 obtain rfl := hv.k_inv
 obtain ⟨d', r, e1, e2, rfl⟩ := intOp_run (P := E.P) (w := w) (t := t) (Av := Av) (h1 (fun x => x = d) rfl)
 exact ⟨eqGuard_plain _ _ _ _ _ _ (.inl ⟨_, _, rfl⟩), r, e1, e2⟩
theorem ok_str {op : BinOp} {t yt : TypeId} {x y : Operand} (ho : o.op = .binOp op t x y yt) {p q : List UInt8} (hx : ev E.gl tm x = some (.s p)) (hy : ev E.gl tm y = some (.s q))
   (hk : strOp op p q fun d => K fp0 (put o.dst d tm) S nx) : Ok1 E o tm S nx K := by
 obtain ⟨d, h1, h2⟩ := strOp_ex hk
 refine ok_bin ho hx hy h2 fun w Av ρ u v hu hv => ?_
 obtain rfl := hu.s_inv
 obtain rfl := hv.s_inv
 obtain ⟨d', r, e1, e2, rfl⟩ := strOp_run (P := E.P) (w := w) (t := t) (Av := Av) (h1 (fun x => x = d) rfl)
 exact ⟨eqGuard_plain _ _ _ _ _ _ (.inr (.inl ⟨_, rfl⟩)), r, e1, e2⟩
theorem ok_bool (hty : TyOk E) {op : BinOp} {t yt : TypeId} {x y : Operand} (ho : o.op = .binOp op t x y yt) {p q : Bool} (hx : ev E.gl tm x = some (.b p)) (hy : ev E.gl tm y = some (.b q)) {td : TD} (ht : E.ty t = some td) (hkd : td.kind = .bool)
   (hk : boolOpK op p q fun d => K fp0 (put o.dst d tm) S nx) : Ok1 E o tm S nx K := by
 have hu : E.P.underlying t = some .bool := by
  have := hty.kind ht
  rw [hkd] at this
  unfold kindChk at this
  split at this <;> (try (cases this; done)) <;> rename_i h1 h2 <;> first | exact h2 | (cases h1; done)
 obtain ⟨d, h1, h2⟩ : ∃ d, (∀ K' : D → Prop, K' d → boolOpK op p q K') ∧ K fp0 (put o.dst d tm) S nx := by
  unfold boolOpK at hk ⊢
  cases op <;> first | exact ⟨_, fun K' h => h, hk⟩ | exact hk.elim
 refine ok_bin ho hx hy h2 fun w Av ρ u v hu' hv => ?_
 obtain rfl := hu'.b_inv
 obtain rfl := hv.b_inv
 obtain ⟨d', r, e1, e2, rfl⟩ := boolOp_run (P := E.P) (w := w) (t := t) hu (Av := Av) (h1 (fun x => x = d) rfl)
 exact ⟨eqGuard_plain _ _ _ _ _ _ (.inr (.inr ⟨_, rfl⟩)), r, e1, e2⟩
theorem ok_agg (hty : TyOk E) {op : BinOp} {t yt : TypeId} {x y : Operand} (ho : o.op = .binOp op t x y yt) {ds es : List D} (hx : ev E.gl tm x = some (.agg ds)) (hy : ev E.gl tm y = some (.agg es)) {td : TD} (ht : E.ty t = some td) {c : List Nat} (hc : td.eqv = some c)
   (hk : aggOpK op c ds es fun d => K fp0 (put o.dst d tm) S nx) : Ok1 E o tm S nx K := by
 obtain ⟨h1, h2, fs, h3⟩ := hty.eqv ht hc
 unfold aggOpK at hk
 split at hk
 · rename_i z hz
   have both : ∀ (w : World) (Av : Nat → Prop) (ρ : Nat → Option Value) (u v : Value), VR w Av ρ (.agg ds) u → VR w Av ρ (.agg es) v → ∃ us vs : List Value, u = .agg us.toArray ∧ v = .agg vs.toArray ∧ (Op.equalIn 10000 t (.agg us.toArray) (.agg vs.toArray)).run E.P w = .ok z w := by
    intro w Av ρ u v hu hv
    obtain ⟨us, rfl, e1, _, e2⟩ := hu.agg_inv
    obtain ⟨vs, rfl, e3, _, e4⟩ := hv.agg_inv
    have := equalIn_plain (P := E.P) (w := w) 5 t c 9995 ds es us vs z h1 e1 e3 e2 e4 hz
    simp only [pv, h3] at this
    exact ⟨us, vs, rfl, rfl, this⟩
   split at hk
   · refine ok_bin ho hx hy hk fun w Av ρ u v hu hv => ?_
     obtain ⟨us, vs, rfl, rfl, e⟩ := both w Av ρ u v hu hv
     exact ⟨run_eqGuard_agg w _ t x y _ _ h2, _, by rw [run_eql_struct, e]; rfl, .b _⟩
   · refine ok_bin ho hx hy hk fun w Av ρ u v hu hv => ?_
     obtain ⟨us, vs, rfl, rfl, e⟩ := both w Av ρ u v hu hv
     exact ⟨run_eqGuard_agg w _ t x y _ _ h2, _, by rw [run_neq_struct, e]; rfl, .b _⟩
   · exact hk.elim
 · exact hk.elim
theorem ok_not {t : TypeId} {x : Operand} (ho : o.op = .unOp .not t x) {p : Bool} (hx : ev E.gl tm x = some (.b p)) (hk : K fp0 (put o.dst (.b (!p)) tm) S nx) : Ok1 E o tm S nx K := by
 refine Ok1.pure (fp := []) hk fun cx tm' S' a w ρ he _ h => ?_
 have hv := (h.eval ((he x (by simp [ho, Op.operands])).trans hx)).b_inv
 exact ⟨_, by simp [execOp, ho, hv, Op.unary], .gr (.atom (.im (.b _)))⟩
theorem ok_neg {t : TypeId} {x : Operand} (ho : o.op = .unOp .neg t x) {kd : IntKind} {n : Int} (hx : ev E.gl tm x = some (.k kd n)) (hk : K fp0 (put o.dst (.k kd (kd.wrap (0 - n))) tm) S nx) : Ok1 E o tm S nx K := by
 refine Ok1.pure (fp := []) hk fun cx tm' S' a w ρ he _ h => ?_
 have hv := (h.eval ((he x (by simp [ho, Op.operands])).trans hx)).k_inv
 exact ⟨_, by simp [execOp, ho, hv, Op.unary, Op.intArith], .gr (.atom (.im (.k _ _)))⟩
theorem VR.tup_inv {w : World} {Av : Nat → Prop} {ρ : Nat → Option Value} {ds : List D} {v : Value} (h : VR w Av ρ (.tup ds) v) : ∃ us : List Value, v = .tuple us.toArray ∧ ds.length = us.length ∧ ∀ (i : Nat) (d : D) (u : Value), ds[i]? = some d → us[i]? = some u → VG w Av ρ d u := by
 cases h with
 | gr h => cases h with | atom h => cases h with | im h => cases h
 | tup hl hr => exact ⟨_, rfl, hl, hr⟩
theorem ok_extract {x : Operand} {i : Nat} (ho : o.op = .extract x i) {ds : List D} (hx : ev E.gl tm x = some (.tup ds)) {d : D} (hd : ds[i]? = some d) (hk : K fp0 (put o.dst d tm) S nx) : Ok1 E o tm S nx K := by
 refine Ok1.pure (fp := []) hk fun cx tm' S' a w ρ he _ h => ?_
 have hv := h.eval ((he x (by simp [ho, Op.operands])).trans hx)
 obtain ⟨us, hv', hl, hr⟩ := hv.tup_inv
 have hi : i < us.length := by rw [← hl]; exact (List.getElem?_eq_some_iff.1 hd).1
 exact ⟨us[i], by simp [execOp, ho, hv', Instr.extract, hi], .gr (hr i d _ hd (List.getElem?_eq_getElem hi))⟩
theorem ok_nilCheck {x : Operand} (ho : o.op = .nilCheck x) {d : D} (hx : ev E.gl tm x = some d) (hd : (∃ n off, d = .bp n off) ∨ (∃ n z i off, d = .op n z i off) ∨ ∃ cs, d = .ep cs) (hk : K fp0 (put o.dst d tm) S nx) : Ok1 E o tm S nx K := by
 refine Ok1.pure (fp := []) hk fun cx tm' S' a w ρ he _ h => ?_
 have hv := h.eval ((he x (by simp [ho, Op.operands])).trans hx)
 refine ⟨a.eval x, ?_, hv⟩
 rcases hd with ⟨n, off, rfl⟩ | ⟨n, z, i, off, rfl⟩ | ⟨cs, rfl⟩
 · obtain ⟨b, _, e⟩ := hv.bp_inv; simp [execOp, ho, e]
 · obtain ⟨g, l, c, _, e⟩ := hv.op_inv; simp [execOp, ho, e]
 · obtain ⟨ad, e, _⟩ := hv.ep_inv.ep_inv; simp [execOp, ho, e]
theorem ok_convInt (hty : TyOk E) {s t : TypeId} {x : Operand} (ho : o.op = .convert s t x) {kd kd' : IntKind} {n : Int} (hx : ev E.gl tm x = some (.k kd n)) {ts td : TD} (hs : E.ty s = some ts) (ht : E.ty t = some td) {ks : IntKind} (h1 : ts.kind = .int ks) (h2 : td.kind = .int kd')
   (hk : K ⟨nmD (.k kd n), []⟩ (put o.dst (.k kd' (kd'.wrap n)) tm) S nx) : Ok1 E o tm S nx K := by
 refine Ok1.pure (fp := []) hk fun cx tm' S' a w ρ he _ h => ?_
 have hv := (h.eval ((he x (by simp [ho, Op.operands])).trans hx)).k_inv
 have u1 := hty.kind hs
 have u2 := hty.kind ht
 rw [h1] at u1
 rw [h2] at u2
 exact ⟨_, by simp [execOp, ho, hv, convert, run_underlying (kind_int u1), run_underlying (kind_int u2), Conv.intToInt], .gr (.atom (.im (.k _ _)))⟩
theorem ok_convStr (hty : TyOk E) {s t : TypeId} {x : Operand} (ho : o.op = .convert s t x) {l : List UInt8} (hx : ev E.gl tm x = some (.s l)) {ts td : TD} (hs : E.ty s = some ts) (ht : E.ty t = some td) (h1 : ts.kind = .str) (h2 : td.kind = .str)
   (hk : K ⟨nmD (.s l), []⟩ (put o.dst (.s l) tm) S nx) : Ok1 E o tm S nx K := by
 refine Ok1.pure (fp := []) hk fun cx tm' S' a w ρ he _ h => ?_
 have hv := (h.eval ((he x (by simp [ho, Op.operands])).trans hx)).s_inv
 have u1 := hty.kind hs
 have u2 := hty.kind ht
 rw [h1] at u1
 rw [h2] at u2
 exact ⟨_, by simp [execOp, ho, hv, convert, run_underlying (kind_str u1), run_underlying (kind_str u2)], .gr (.atom (.im (.s _)))⟩
theorem imm_cells {cx : Cx} {a : Act} {w : World} {ρ : Nat → Option Value} (h : R E cx tm S a w ρ) {d : D} {v : Value} (hv : VR w (AvS cx.G S ρ) ρ d v) {xs : List (List D)} (hi : immD S d = some (.sl xs)) (hk : ∀ cs ∈ xs, ∀ ys, cs ≠ [.sl ys]) :
   ∃ A n c, v = .slice A n c ∧ xs.length = n ∧ (A = none → xs = []) ∧ ∀ ad, A = some ad → ∃ sz, (∀ cs ∈ xs, cs.length = sz) ∧ ∀ (i j : Nat) (cs : List D) (d : D), xs[i]? = some cs → cs[j]? = some d → ∃ u, w.cell? (ad.add (i * sz + j)) = some u ∧ VI w (AvS cx.G S ρ) d u := by
 have imm : VI w (AvS cx.G S ρ) (.sl xs) v → ∃ A n c, v = .slice A n c ∧ xs.length = n ∧ (A = none → xs = []) ∧ ∀ ad, A = some ad → ∃ sz, (∀ cs ∈ xs, cs.length = sz) ∧ ∀ (i j : Nat) (cs : List D) (d : D), xs[i]? = some cs → cs[j]? = some d → ∃ u, w.cell? (ad.add (i * sz + j)) = some u ∧ VI w (AvS cx.G S ρ) d u := by
  intro hv
  obtain ⟨A, n, c, rfl, hn, _, _, hnone, hsome⟩ := hv.sl_inv
  refine ⟨A, n, c, rfl, hn, fun h => (hnone h).1, fun ad h => ?_⟩
  obtain ⟨_, _, sz, h1, h2⟩ := hsome ad h
  exact ⟨sz, h1, fun i j cs d p q => let ⟨u, e1, _, e3⟩ := h2 i j cs d p q; ⟨u, e1, e3⟩⟩
 cases d with
 | nil =>
   simp [immD, immA] at hi
   subst hi
   rw [hv.nil_inv]
   exact ⟨none, 0, 0, rfl, rfl, fun _ => rfl, fun ad h => by cases h⟩
 | sl ys =>
   simp [immD, immA] at hi
   subst hi
   exact imm hv.sl_inv
 | own t =>
   simp only [immD, immA] at hi
   split at hi
   · rename_i b hl
     split at hi
     · rename_i ys him
       cases hi
       have hsr := h.st _ _ hl
       have hown := hv.own_inv
       cases b with
       | box e cs => simp [imB] at him
       | row e cs => simp [imB] at him
       | own e zs =>
         simp only [imB, Option.some.injEq] at him
         subst him
         obtain ⟨u, us, hr, ho, hc⟩ := hsr
         rw [nmv_of hr (top_row ho)] at hown
         cases hown
         rcases ho.2 with ⟨rfl, hn⟩ | ⟨g, cap, cur, rfl, _⟩
         · exact ⟨none, 0, 0, rfl, hn, fun _ => List.eq_nil_of_length_eq_zero hn, fun ad h => by cases h⟩
         · refine ⟨_, _, _, rfl, rfl, (fun h => by cases h), fun ad h => ?_⟩
           cases h
           refine ⟨_, hc.el, fun i j cs d p q => ?_⟩
           obtain ⟨u, e1, e2⟩ := hc.at_ i j cs d p q
           exact ⟨u, ho.cells (g := g) rfl _ _ e1, e2⟩
       | fr zs =>
         simp only [imB, Option.some.injEq] at him
         subst him
         obtain ⟨u, hr, hvi⟩ := hsr
         rw [hr] at hown
         cases hown
         exact imm hvi
       | deep e e2 zs =>
         obtain ⟨u, vs, us, hd⟩ := hsr
         rw [nmv_tuple hd.name] at hown
         cases hown
         obtain ⟨z1, z2⟩ := imZ_get him
         have hz : zs = [] := by
          cases zs with
          | nil => rfl
          | cons z r =>
            obtain ⟨q, _, q2⟩ := z2 0 z rfl
            exact absurd rfl (hk _ (List.mem_of_getElem? q2) q)
         subst hz
         have hys : xs = [] := List.eq_nil_of_length_eq_zero z1
         subst hys
         rcases hd.own.2 with ⟨rfl, hn⟩ | ⟨g, cap, cur, rfl, _⟩
         · exact ⟨none, 0, 0, rfl, rfl, fun _ => rfl, fun ad h => by cases h⟩
         · exact ⟨_, _, _, rfl, rfl, fun _ => rfl, fun ad h => ⟨0, by simp, by simp⟩⟩
     · cases hi
   · cases hi
 | fn f cs => simp only [immD, immA] at hi; split at hi <;> cases hi
 | agg ds => simp only [immD] at hi; split at hi <;> cases hi
 | bp => simp [immD, immA] at hi
 | op => simp [immD, immA] at hi
 | junk => simp [immD, immA] at hi
 | vw => simp [immD, immA] at hi
 | tup => simp [immD, immA] at hi
 | b => simp [immD, immA] at hi
 | k => simp [immD, immA] at hi
 | s => simp [immD, immA] at hi
 | v => simp [immD, immA] at hi
 | ep => simp [immD, immA] at hi
theorem immD_agree {S' : Store} {d : D} (hf : ∀ n ∈ nmD d, lk S' n = lk S n) : immD S' d = immD S d := by
 have atom : ∀ d, (∀ n ∈ nmA d, lk S' n = lk S n) → immA S' d = immA S d := by
  intro d h
  cases d <;> simp only [immA]
  rw [h _ (by simp [nmA])]
 have atoms : ∀ ds : List D, (∀ n ∈ nmAs ds, lk S' n = lk S n) → immAs S' ds = immAs S ds := by
  intro ds
  induction ds with
  | nil => intro _; rfl
  | cons d r ih =>
    intro h
    simp only [immAs]
    rw [atom d fun n hn => h n (by simp [nmAs, hn]), ih fun n hn => h n (by simp [nmAs, hn])]
 cases d with
 | agg ds => simp only [immD]; rw [atoms ds fun n hn => hf n (by simp [nmD, hn])]
 | tup => rfl
 | own t => exact atom (.own t) hf
 | _ => rfl
theorem ok_convBytes (hty : TyOk E) {s t e : TypeId} {x : Operand} (ho : o.op = .convert s t x) {d : D} (hx : ev E.gl tm x = some d) {ts td te : TD} (hs : E.ty s = some ts) (ht : E.ty t = some td) (he : E.ty e = some te) (h1 : ts.kind = .slice e) (h2 : td.kind = .str) (h3 : te.kind = .int .u8)
   {l : List UInt8} (hl : immD S d = some (.sl (bytesOf l))) (hk : K ⟨nmD d, []⟩ (put o.dst (.s l) tm) S nx) : Ok1 E o tm S nx K := by
 refine Ok1.pure (fp := nmD d) hk fun cx tm' S' a w ρ hev hf h => ?_
 have hv := h.eval ((hev x (by simp [ho, Op.operands])).trans hx)
 have u1 := hty.kind hs
 have u2 := hty.kind ht
 have u3 := hty.kind he
 rw [h1] at u1
 rw [h2] at u2
 rw [h3] at u3
 rw [← immD_agree hf] at hl
 obtain ⟨A, n, c, hva, hn, hnone, hsome⟩ := imm_cells h hv hl (fun cs hcs ys e => by
  simp only [bytesOf, List.mem_map] at hcs
  obtain ⟨c, _, rfl⟩ := hcs
  simp at e)
 have hconv := run_convert_bytes_string (P := E.P) w s t e A n c (kind_slice u1) (kind_int u3) (kind_str u2)
 refine ⟨.string ⟨l.toArray⟩, ?_, .gr (.atom (.im (.s _)))⟩
 simp only [execOp, ho, hva, hconv, Sem.run_bind, Sem.run_pure]
 cases A with
 | none =>
   have : l = [] := by
    have := hnone rfl
    simpa [bytesOf] using this
   subst this
   simp [Conv.bytesToString]
   rfl
 | some ad =>
   obtain ⟨sz, hsz, hcell⟩ := hsome ad rfl
   have hcells : (loadCells ad n).run E.P w = .ok ((l.map fun c => (c.toNat : Int)).map (Value.int .u8)).toArray w := by
    have := run_loadCells_list (P := E.P) w ad ((l.map fun c => (c.toNat : Int)).map (Value.int .u8)) (fun j u hu => by
     have hj : j < l.length := by have := (List.getElem?_eq_some_iff.1 hu).1; simpa using this
     have hbs : (bytesOf l)[j]? = some [D.k .u8 ((l[j]).toNat : Int)] := by simp [bytesOf, hj]
     have hsz1 : sz = 1 := (hsz _ (List.mem_of_getElem? hbs)).symm
     obtain ⟨u', e1, e2⟩ := hcell j 0 _ _ hbs rfl
     cases e2
     subst hsz1
     simp [hj] at hu
     subst hu
     simpa using e1)
    rw [← hn]
    simpa [bytesOf] using this
   rw [run_bytesToString w ad n c _ hcells]
   simp only [Result.andThen_ok]
   have key : ∀ (l : List UInt8) (s : List UInt8), (l.map fun c => (c.toNat : Int)).foldl (fun r n => ByteArray.push r (UInt8.ofNat n.toNat)) (⟨s.toArray⟩ : ByteArray) = ⟨(s ++ l).toArray⟩ := by
    intro l
    induction l with
    | nil => intro s; simp
    | cons c r ih =>
      intro s
      simp only [List.map_cons, List.foldl_cons]
      have : ByteArray.push (⟨s.toArray⟩ : ByteArray) (UInt8.ofNat ((c.toNat : Int)).toNat) = ⟨(s ++ [c]).toArray⟩ := by
       simp [ByteArray.push]
      rw [this, ih]
      simp
   have := key l []
   simp only [List.nil_append] at this
   congr 3
theorem VR.vw_inv {w : World} {Av : Nat → Prop} {ρ : Nat → Option Value} {t sz a b : Nat} {v : Value} (h : VR w Av ρ (.vw t sz a b) v) : ∃ (n c : Nat) (A : Option Addr), ρ t = some (.slice A n c) ∧ a ≤ b ∧ b ≤ n ∧ n ≤ c ∧ (A = none → c = 0) ∧ v = .slice (if c = a then A else A.map (·.add (a * sz))) (b - a) (c - a) := by
 cases h with
 | gr h =>
   cases h with
   | atom h =>
     cases h with
     | im h => cases h
     | vw h h1 h2 h3 h4 => exact ⟨_, _, _, h, h1, h2, h3, h4, rfl⟩
theorem ok_len (hty : TyOk E) {x : Operand} {t : TypeId} {ca : Array Operand} {ct : Array TypeId} (ho : o.op = .call { callee := .builtin .len, args := ca, argTypes := ct }) (hca : ca = #[x]) (hct : ct = #[t]) {d : D} (hx : ev E.gl tm x = some d) {td : TD} (ht : E.ty t = some td)
   (hk : lenK td.kind S d fun n => K ⟨nmD d, []⟩ (put o.dst (.k .i64 n) tm) S nx) : Ok1 E o tm S nx K := by
 subst hca hct
 have ex : ∃ n, (∀ K' : Int → Prop, K' n → lenK td.kind S d K') ∧ K ⟨nmD d, []⟩ (put o.dst (.k .i64 n) tm) S nx := by
  unfold lenK at hk ⊢
  cases hkd : td.kind <;> rw [hkd] at hk <;> (try exact hk.elim) <;> cases d <;> (try exact hk.elim) <;> simp only at hk ⊢
  · exact ⟨_, fun K' h => h, hk⟩
  · exact ⟨_, fun K' h => h, hk⟩
  · exact ⟨_, fun K' h => h, hk⟩
  · split at hk
    all_goals first | exact ⟨_, fun K' h => h, hk⟩ | exact hk.elim
  · exact ⟨_, fun K' h => h, hk⟩
 obtain ⟨n, h1, h2⟩ := ex
 refine Ok1.pure (fp := nmD d) h2 fun cx tm' S' a w ρ hev hf h => ?_
 have hv := h.eval ((hev x (by simp [ho, Op.operands, Call.operands])).trans hx)
 have hk' := lenK_agree hf (h1 (fun x => x = n) rfl)
 have hkc := hty.kind ht
 have run : ∀ (v : Value) (r : Int), a.eval x = v → (Builtin.len_ #[t] o.type #[v]).run E.P w = .ok (.int .i64 r) w → (execOp a.eval o).run E.P w = .ok (.value (.int .i64 r)) w := by
  intro v r hv hr
  simp only [execOp, ho, resolve, invoke, builtin, Sem.run_bind, Sem.run_pure, Result.andThen_ok, List.map_toArray, List.map_cons, List.map_nil, hv, hr]
 have sl : ∀ (A : Option Addr) (m c : Nat) (e : TypeId), E.P.underlying t = some (.slice e) → (Builtin.len_ #[t] o.type #[.slice A m c]).run E.P w = .ok (.int .i64 (m : Int)) w := by
  intro A m c e hu
  simp [Builtin.len_, run_underlying hu, goInt]
 unfold lenK at hk'
 cases hkd : td.kind <;> rw [hkd] at hk' hkc <;> (try exact hk'.elim) <;> cases d <;> (try exact hk'.elim) <;> simp only at hk'
 · rename_i l
   subst hk'
   refine ⟨_, run _ _ hv.s_inv ?_, .gr (.atom (.im (.k _ _)))⟩
   have hsz : (⟨l.toArray⟩ : ByteArray).size = l.length := by simp [ByteArray.size]
   simp [Builtin.len_, run_underlying (kind_str hkc), goInt, hsz]
 · subst hk'
   exact ⟨_, run _ _ hv.nil_inv (sl _ _ _ _ (kind_slice hkc)), .gr (.atom (.im (.k _ _)))⟩
 · subst hk'
   obtain ⟨A, m, c, e, hn, _⟩ := hv.sl_inv.sl_inv
   subst hn
   exact ⟨_, run _ _ e (sl _ _ _ _ (kind_slice hkc)), .gr (.atom (.im (.k _ _)))⟩
 · rename_i e0 t0
   have key : ∀ (u : Value) (len : Nat), nmv ρ t0 = some u → (∃ A m c, u = .slice A m c ∧ m = len) → n = (len : Int) → ∃ v, (execOp a.eval o).run E.P w = .ok (.value v) w ∧ VR w (AvS cx.G S' ρ) ρ (.k .i64 n) v := by
    rintro u len hr ⟨A, m, c, rfl, rfl⟩ rfl
    have := hv.own_inv
    rw [hr] at this
    exact ⟨_, run _ _ (Option.some.inj this).symm (sl _ _ _ _ (kind_slice hkc)), .gr (.atom (.im (.k _ _)))⟩
   have owned : ∀ (e : TypeId) (sz : Nat) (u : Value) (us : List Value) (len : Nat), w.ownsRow 0 e sz u len us → ∃ A m c, u = .slice A m c ∧ m = len := by
    intro e sz u us len ho
    rcases ho.2 with ⟨rfl, hn⟩ | ⟨g, cap, cur, rfl, _⟩
    · exact ⟨_, _, _, rfl, hn.symm⟩
    · exact ⟨_, _, _, rfl, rfl⟩
   split at hk'
   · rename_i e xs hl
     obtain ⟨u, us, hr, ho', _⟩ := h.st _ _ hl
     exact key u _ (nmv_of hr (top_row ho')) (owned e _ u us _ ho') hk'.symm
   · rename_i e xs hl
     obtain ⟨u, us, hr, ho', _⟩ := h.st _ _ hl
     exact key u _ (nmv_of hr (top_row ho')) (owned e _ u us _ ho') hk'.symm
   · rename_i e e2 zs hl
     obtain ⟨u, vs, us, hd⟩ := h.st _ _ hl
     exact key u _ (nmv_tuple hd.name) (owned e _ u us _ hd.own) hk'.symm
   · rename_i xs hl
     obtain ⟨u, hr, hvi⟩ := h.st _ _ hl
     obtain ⟨A, m, c, e, hn, _⟩ := hvi.sl_inv
     exact key u _ hr ⟨A, m, c, e, hn.symm⟩ hk'.symm
   · exact hk'.elim
 · subst hk'
   obtain ⟨n0, c0, A, hr, q1, q2, q3, q4, e⟩ := hv.vw_inv
   exact ⟨_, run _ _ e (sl _ _ _ _ (kind_slice hkc)), .gr (.atom (.im (.k _ _)))⟩
end
end Go.Ab
namespace Go.Ab
open Go Go.RowKit
theorem fillX_len {α : Type} : ∀ (vs us : List α) (o : Nat), (fillX us o vs).length = us.length
 | [], _, _ => rfl
 | v :: r, us, o => by simp [fillX, fillX_len r]
theorem fillX_mem {α : Type} : ∀ (vs us : List α) (o : Nat) (x : α), x ∈ fillX us o vs → x ∈ us ∨ x ∈ vs
 | [], us, o, x, h => .inl h
 | v :: r, us, o, x, h => by
   rcases fillX_mem r (us.set o v) (o + 1) x h with h1 | h1
   · rcases List.mem_or_eq_of_mem_set h1 with h2 | h2
     · exact .inl h2
     · exact .inr (by simp [h2])
   · exact .inr (List.mem_cons_of_mem _ h1)
theorem fillX_get {α : Type} : ∀ (vs us : List α) (o k : Nat), o + vs.length ≤ us.length → (fillX us o vs)[k]? = if o ≤ k ∧ k < o + vs.length then vs[k - o]? else us[k]?
 | [], us, o, k, _ => by
   have : ¬ (o ≤ k ∧ k < o + ([] : List α).length) := by simp only [List.length_nil]; omega
   rw [if_neg this]
   rfl
 | v :: r, us, o, k, h => by
   have hl : o < us.length := by simp at h; omega
   rw [fillX, fillX_get r (us.set o v) (o + 1) k (by simp at h ⊢; omega)]
   by_cases h1 : o + 1 ≤ k ∧ k < o + 1 + r.length
   · rw [if_pos h1, if_pos (by simp; omega)]
     have : k - o = (k - (o + 1)) + 1 := by omega
     rw [this]
     simp
   · rw [if_neg h1, List.getElem?_set]
     by_cases h2 : o = k
     · subst h2
       simp [hl]
     · rw [if_neg h2, if_neg (by simp; omega)]
theorem fillX_eq {α : Type} (vs us : List α) (o : Nat) (h : o + vs.length ≤ us.length) : us.take o ++ vs ++ us.drop (o + vs.length) = fillX us o vs := by
 apply List.ext_getElem?
 intro k
 rw [fillX_get vs us o k h]
 have h1 : (us.take o).length = o := by rw [List.length_take]; omega
 have h2 : (us.take o ++ vs).length = o + vs.length := by rw [List.length_append, h1]
 by_cases ha : k < o
 · rw [if_neg (by omega), List.append_assoc, List.getElem?_append_left (by omega), List.getElem?_take, if_pos ha]
 · by_cases hb : k < o + vs.length
   · rw [if_pos (by omega), List.getElem?_append_left (by omega), List.getElem?_append_right (by omega), h1]
   · rw [if_neg (by omega), List.getElem?_append_right (by omega), h2, List.getElem?_drop]
     congr 1
     omega
theorem fill_rel {p : D → Value → Prop} {ds : List D} {vs : List Value} {cs : List D} {us : List Value} {o : Nat} (hl : ds.length = vs.length) (hl' : cs.length = us.length) (hle : o + ds.length ≤ cs.length)
   (hd : ∀ (i : Nat) (d : D) (u : Value), ds[i]? = some d → vs[i]? = some u → p d u) (hc : ∀ (i : Nat) (d : D) (u : Value), cs[i]? = some d → us[i]? = some u → p d u) :
   ∀ (i : Nat) (d : D) (u : Value), (fillX cs o ds)[i]? = some d → (fillX us o vs)[i]? = some u → p d u := by
 intro i d u a b
 rw [fillX_get ds cs o i hle] at a
 rw [fillX_get vs us o i (by omega), ← hl] at b
 split at a
 · rename_i hi
   rw [if_pos hi] at b
   exact hd _ d u a b
 · rename_i hi
   rw [if_neg hi] at b
   exact hc _ d u a b
theorem Cs.fill {w : World} {Av : Nat → Prop} {ρ : Nat → Option Value} {cs ds : List D} {us vs : List Value} (h : Cs w Av ρ cs us) (k : Cs w Av ρ ds vs) {o : Nat} (hle : o + ds.length ≤ cs.length) : Cs w Av ρ (fillX cs o ds) (fillX us o vs) :=
 ⟨by rw [fillX_len, fillX_len]; exact h.len, fun u hu => (fillX_mem _ _ _ _ hu).elim (h.one u) (k.one u), fill_rel k.len h.len hle k.at_ h.at_⟩
theorem fold_fill : ∀ (vs : List Value) (j off : Nat) (us : List Value),
   (vs.zipIdx j).foldl (fun (cs : Array Value) (x : Value × Nat) => cs.setIfInBounds (off + x.2) x.1) us.toArray = (fillX us (off + j) vs).toArray
 | [], _, _, _ => rfl
 | v :: r, j, off, us => by
   simp only [List.zipIdx_cons, List.foldl_cons, fillX, List.setIfInBounds_toArray]
   rw [fold_fill r (j + 1) off]
   rfl
theorem fill_step (place : Nat → Option (Nat × Nat)) (us : List Value) (i off z : Nat) (v : Value) (rest : List (Nat × Value)) (hp : place i = some (off, z)) (hz : v.cells.toList.length = z) (hle : off + z ≤ us.length) :
   Instr.fill place us.toArray ((i, v) :: rest) = Instr.fill place (fillX us off v.cells.toList).toArray rest := by
 have h1 : ¬ (v.cells.size ≠ z ∨ off + v.cells.size > us.length) := by
  have : v.cells.size = z := by simpa using hz
  omega
 have h2 := fold_fill v.cells.toList 0 off us
 simp only [Nat.add_zero] at h2
 simp only [Instr.fill, hp, List.size_toArray]
 rw [if_neg (by simpa using h1)]
 rw [← Array.foldl_toList, Array.toList_zipIdx]
 rw [h2]
theorem row_lt {i i' j sz : Nat} (hj : j < sz) (h : i' < i) : i' * sz + j < i * sz := by
 have : (i' + 1) * sz ≤ i * sz := Nat.mul_le_mul_right sz h
 rw [Nat.add_mul] at this
 omega
theorem Rows.set {p : D → Value → Prop} {sz : Nat} {xs : List (List D)} {us : List Value} (h : Rows p sz xs us) {i off : Nat} {cs ds : List D} {vs : List Value} (hi : xs[i]? = some cs) (hl : off + ds.length ≤ cs.length) (hdl : ds.length = vs.length)
   (h1 : ∀ v ∈ vs, v.oneCell' = true) (hv : ∀ (i : Nat) (d : D) (u : Value), ds[i]? = some d → vs[i]? = some u → p d u) : Rows p sz (xs.set i (fillX cs off ds)) (fillX us (i * sz + off) vs) := by
 have hil : i < xs.length := (List.getElem?_eq_some_iff.1 hi).1
 have hcs : cs.length = sz := h.el cs (List.mem_of_getElem? hi)
 have hfit : i * sz + off + vs.length ≤ us.length := by
  have : (i + 1) * sz ≤ xs.length * sz := Nat.mul_le_mul_right sz hil
  rw [Nat.add_mul] at this
  rw [h.len]
  omega
 refine ⟨by rw [fillX_len, List.length_set]; exact h.len, fun c hc => ?_, fun u hu => (fillX_mem _ _ _ _ hu).elim (h.one u) (h1 u), fun i' j c d hc hd => ?_⟩
 · rcases List.mem_or_eq_of_mem_set hc with h2 | rfl
   · exact h.el c h2
   · rw [fillX_len]; exact hcs
 · rw [List.getElem?_set] at hc
   rw [fillX_get _ _ _ _ hfit]
   by_cases e : i = i'
   · subst e
     rw [if_pos rfl, if_pos hil] at hc
     cases hc
     have hj : j < sz := by rw [← hcs, ← fillX_len ds cs off]; exact (List.getElem?_eq_some_iff.1 hd).1
     obtain ⟨olds, o1, o2⟩ := list_of (fun (k : Nat) (d : D) (u : Value) => us[i * sz + k]? = some u ∧ p d u) cs (fun k d hk => h.at_ i k cs d hi hk)
     have hj' : j < (fillX olds off vs).length := by rw [fillX_len, o1, hcs]; exact hj
     have hrel := fill_rel (p := p) hdl o1.symm hl hv (fun i d u p q => (o2 i d u p q).2) j d _ hd (List.getElem?_eq_getElem hj')
     refine ⟨_, ?_, hrel⟩
     have hg := fillX_get vs olds off j (by rw [o1]; omega)
     rw [List.getElem?_eq_getElem hj'] at hg
     by_cases hin : off ≤ j ∧ j < off + vs.length
     · rw [if_pos (by omega)]
       rw [if_pos hin] at hg
       rw [hg]
       congr 1
       omega
     · rw [if_neg (by omega)]
       rw [if_neg hin] at hg
       have hjc : j < cs.length := by omega
       have := (o2 j cs[j] _ (List.getElem?_eq_getElem hjc) hg.symm).1
       rw [this]
   · rw [if_neg e] at hc
     obtain ⟨u, e1, e2⟩ := h.at_ i' j c d hc hd
     refine ⟨u, ?_, e2⟩
     have hj : j < sz := by rw [← h.el c (List.mem_of_getElem? hc)]; exact (List.getElem?_eq_some_iff.1 hd).1
     rw [if_neg ?_]
     · exact e1
     · rcases Nat.lt_or_gt_of_ne e with hlt | hgt
       · have := row_lt (i := i') (i' := i) (j := off + vs.length - 1) (sz := sz)
         intro hh
         have h3 : i * sz + sz ≤ i' * sz := by
          have : (i + 1) * sz ≤ i' * sz := Nat.mul_le_mul_right sz hlt
          rw [Nat.add_mul] at this
          omega
         omega
       · intro hh
         have h3 := row_lt (i := i) (i' := i') hj hgt
         omega
theorem made_get (z : Array Value) (n k : Nat) (hk : k < n) (_hz : 0 < z.size) : (madeCells z n).toList[k]? = some z[k % z.size]! := by
 simp [madeCells, hk]
theorem Rows.made {p : D → Value → Prop} {z : Array Value} {zs : List D} (hl : zs.length = z.size) (hz : 0 < z.size) (h1 : ∀ u ∈ z.toList, u.oneCell' = true)
   (hv : ∀ (i : Nat) (d : D) (u : Value), zs[i]? = some d → z.toList[i]? = some u → p d u) (n : Nat) : Rows p z.size (List.replicate n zs) (madeCells z (n * z.size)).toList := by
 have hget : ∀ k, k < z.size → z[k]? = some z[k]! := fun k hk => by simp [hk]
 refine ⟨by simp [madeCells], fun c hc => ?_, fun u hu => ?_, fun i j c d hc hd => ?_⟩
 · rw [(List.mem_replicate.1 hc).2]; exact hl
 · obtain ⟨k, hk⟩ := List.mem_iff_getElem?.1 hu
   have hlt : k < n * z.size := by have := (List.getElem?_eq_some_iff.1 hk).1; simpa [madeCells] using this
   rw [made_get z _ k hlt hz] at hk
   cases hk
   have hm := Nat.mod_lt k hz
   exact h1 _ (by rw [Array.mem_toList_iff]; exact Array.mem_of_getElem? (hget _ hm))
 · have hi : i < n := by have := (List.getElem?_eq_some_iff.1 hc).1; simpa using this
   have hc' : c = zs := by
    have := List.mem_of_getElem? hc
    exact (List.mem_replicate.1 this).2
   subst hc'
   have hj : j < z.size := by rw [← hl]; exact (List.getElem?_eq_some_iff.1 hd).1
   have hlt : i * z.size + j < n * z.size := row_lt hj hi
   refine ⟨_, made_get z _ _ hlt hz, ?_⟩
   have : (i * z.size + j) % z.size = j := by rw [Nat.mul_comm, Nat.mul_add_mod]; exact Nat.mod_eq_of_lt hj
   rw [this]
   exact hv j d _ hd (by simpa using hget j hj)
theorem Rows.append {p : D → Value → Prop} {sz : Nat} {xs ys : List (List D)} {us vs : List Value} (h : Rows p sz xs us) (k : Rows p sz ys vs) : Rows p sz (xs ++ ys) (us ++ vs) := by
 refine ⟨by rw [List.length_append, List.length_append, h.len, k.len, Nat.add_mul], fun c hc => ?_, fun u hu => ?_, fun i j c d hc hd => ?_⟩
 · rcases List.mem_append.1 hc with h1 | h1
   · exact h.el c h1
   · exact k.el c h1
 · rcases List.mem_append.1 hu with h1 | h1
   · exact h.one u h1
   · exact k.one u h1
 · by_cases hi : i < xs.length
   · rw [List.getElem?_append_left hi] at hc
     obtain ⟨u, e1, e2⟩ := h.at_ i j c d hc hd
     refine ⟨u, ?_, e2⟩
     rw [List.getElem?_append_left (List.getElem?_eq_some_iff.1 e1).1]
     exact e1
   · rw [List.getElem?_append_right (by omega)] at hc
     obtain ⟨u, e1, e2⟩ := k.at_ (i - xs.length) j c d hc hd
     refine ⟨u, ?_, e2⟩
     have hge : xs.length * sz ≤ i * sz := Nat.mul_le_mul_right sz (by omega)
     rw [List.getElem?_append_right (by rw [h.len]; omega), ← e1, h.len]
     congr 1
     rw [Nat.sub_mul]
     omega
section
variable {E : Env} {cx : Cx} {tm : Tm} {S S0 : Store} {nx : Nat} {a : Act} {w : World} {ρ : Nat → Option Value} {o : Oper} {K : Kt}
theorem VI.cells {Av : Nat → Prop} {d : D} {u : Value} (h : VI w Av d u) : (cellsOf d).length = u.cells.toList.length ∧ (∀ x ∈ u.cells.toList, x.oneCell' = true) ∧
   ∀ (i : Nat) (d' : D) (x : Value), (cellsOf d)[i]? = some d' → u.cells.toList[i]? = some x → VI w Av d' x := by
 by_cases ha : ∃ ds, d = .agg ds
 · obtain ⟨ds, rfl⟩ := ha
   cases h with
   | agg hl h1 hr => exact ⟨by simpa [cellsOf, Value.cells] using hl, by simpa [Value.cells] using h1, fun i d x p q => hr i d x p (by simpa [Value.cells] using q)⟩
 · have h1 := h.one fun ds e => ha ⟨ds, e⟩
   have hc : cellsOf d = [d] := by cases d <;> first | rfl | exact absurd ⟨_, rfl⟩ ha
   rw [cells_one h1, hc]
   refine ⟨rfl, by simpa using h1, fun i d' x p q => ?_⟩
   cases i with
   | zero => simp at p q; subst p q; exact h
   | succ i => simp at p
theorem take_fillX (vs us : List Value) (o m : Nat) (h : o + vs.length ≤ m) (hm : m ≤ us.length) : (fillX us o vs).take m = fillX (us.take m) o vs := by
 apply List.ext_getElem?
 intro k
 rw [List.getElem?_take, fillX_get _ _ _ _ (by omega), fillX_get _ _ _ _ (by rw [List.length_take]; omega), List.getElem?_take]
 by_cases hk : k < m
 · rw [if_pos hk, if_pos hk]
 · rw [if_neg hk, if_neg hk]
   split
   · omega
   · rfl
theorem fr_setRow (w : World) (g : Nat) (cs : Array Value) : Fr (fun x => x = g) w (w.setRow g cs) :=
 ⟨rfl, rfl, rfl, by simp, fun k _ hk => setRow_other w g k cs hk⟩
theorem storeVar_run (hty : TyOk E) {t : TypeId} {td : TD} (ht : E.ty t = some td) {g off : Nat} {e : TypeId} {cur : Array Value} (hg : w.heap[g]? = some (.cells cur e (0, 0))) {v : Value} (hs : v.cells.toList.length = td.size)
   (hfit : off + td.size ≤ cur.size) (h1 : ∀ u ∈ v.cells.toList, u.oneCell' = true) :
   (Instr.storeAt t (.pointer (some ⟨g, off, none⟩)) v).run E.P w = .ok () (w.setRow g (fillX cur.toList off v.cells.toList).toArray) := by
 have h2 := run_storeCells_at E.P g off e v.cells.toList 0 cur w hg (by omega) h1
 simp only [Nat.add_zero] at h2
 rw [fillX_eq _ _ _ (by rw [hs, Array.length_toList]; exact hfit)] at h2
 have h3 : v.cells.size = td.size := by simpa using hs
 simp [Instr.storeAt, Instr.sureAddr, storeVar, sizeOf_run hty ht, h3, h2]
theorem fillParts_ex {gl : Nat → Option (List D)} {pl : List (Nat × Nat)} : ∀ (parts : List (Nat × Operand)) (cs : List D) (K : List D → Prop), fillParts gl tm pl parts cs K → ∃ cs', (∀ K' : List D → Prop, K' cs' → fillParts gl tm pl parts cs K') ∧ K cs'
 | [], cs, K, h => ⟨cs, fun _ h => h, h⟩
 | (i, x) :: r, cs, K, h => by
   unfold fillParts at h
   split at h
   · rename_i o z hp
     obtain ⟨d, hx, h⟩ := evK_inv h
     split at h
     · rename_i hb
       obtain ⟨cs', h1, h2⟩ := fillParts_ex r _ K h
       refine ⟨cs', fun K' hK => ?_, h2⟩
       unfold fillParts
       simp only [hp, evK, hx, hb]
       exact h1 K' hK
     · exact h.elim
   · exact h.elim
theorem fillParts_ev {gl : Nat → Option (List D)} {tm' : Tm} {pl : List (Nat × Nat)} : ∀ (parts : List (Nat × Operand)) (cs : List D) (K : List D → Prop), (∀ p ∈ parts, ev gl tm' p.2 = ev gl tm p.2) → fillParts gl tm pl parts cs K → fillParts gl tm' pl parts cs K
 | [], cs, K, _, h => h
 | (i, x) :: r, cs, K, he, h => by
   unfold fillParts at h ⊢
   split at h
   · rename_i o z hp
     obtain ⟨d, hx, h⟩ := evK_inv h
     have hx' : ev gl tm' x = some d := (he (i, x) (by simp)).trans hx
     split at h
     · rename_i hb
       simp only [evK, hx', hb]
       exact fillParts_ev r _ K (fun p hp => he p (by simp [hp])) h
     · exact h.elim
   · exact h.elim
theorem fillParts_run (h : R E cx tm S a w ρ) {pl : List (Nat × Nat)} : ∀ (parts : List (Nat × Operand)) (cs : List D) (us : List Value) (K : List D → Prop), fillParts E.gl tm pl parts cs K → Cs w (AvS cx.G S ρ) ρ cs us →
   ∃ cs' us', Instr.fill (fun i => pl[i]?) us.toArray (parts.map fun (i, x) => (i, a.eval x)) = some us'.toArray ∧ Cs w (AvS cx.G S ρ) ρ cs' us' ∧ K cs'
 | [], cs, us, K, hf, hc => ⟨cs, us, rfl, hc, hf⟩
 | (i, x) :: r, cs, us, K, hf, hc => by
   unfold fillParts at hf
   split at hf
   · rename_i off z hp
     obtain ⟨d, hx, hf⟩ := evK_inv hf
     split at hf
     · rename_i hb
       simp only [Bool.and_eq_true] at hb
       obtain ⟨⟨h1, h2⟩, h3⟩ := hb
       have hd := ((h.eval hx).vg (by simpa using h3)).cells
       have hz : (a.eval x).cells.toList.length = z := by rw [← hd.len]; exact Nat.eq_of_beq_eq_true h1
       have hle : off + z ≤ us.length := by rw [← hc.len]; exact Nat.le_of_ble_eq_true h2
       obtain ⟨cs', us', e1, e2, e3⟩ := fillParts_run h r _ (fillX us off (a.eval x).cells.toList) K hf (hc.fill hd (Nat.le_of_ble_eq_true h2 |> fun q => by rw [Nat.eq_of_beq_eq_true h1]; exact q))
       refine ⟨cs', us', ?_, e2, e3⟩
       rw [List.map_cons, fill_step _ us i off z _ _ hp hz hle]
       exact e1
     · exact hf.elim
   · exact hf.elim
theorem places_mapM : ∀ {pl : List (Nat × Nat)} {fs : List Field}, placesChk E.P pl fs = true → fs.mapM (fun f => (E.P.info? f.type).map fun i => (f.offset, i.size)) = some pl
 | [], [], _ => rfl
 | [], _ :: _, h => by simp [placesChk] at h
 | _ :: _, [], h => by simp [placesChk] at h
 | (o, z) :: r, f :: fs, h => by
   simp only [placesChk, Bool.and_eq_true] at h
   obtain ⟨⟨⟨h1, h2⟩, h3⟩, h4⟩ := h
   have h2 := Nat.eq_of_beq_eq_true h2
   have h3 := Nat.le_of_ble_eq_true h3
   have h1 := Nat.eq_of_beq_eq_true h1
   unfold Program.cellsOf at h2
   cases hi : E.P.info? f.type with
   | none => rw [hi] at h2; simp at h2; omega
   | some i =>
     rw [hi] at h2
     simp at h2
     simp [List.mapM_cons, hi, places_mapM h4, h1, h2]
theorem ok_build (hty : TyOk E) {t : TypeId} {parts : Array (Nat × Operand)} (ho : o.op = .build t parts) {td : TD} (ht : E.ty t = some td) {pl : List (Nat × Nat)} (hk : td.kind = .struct pl)
   (hf : fillParts E.gl tm pl parts.toList (cellsOf td.zero) fun cs => K fp0 (put o.dst (.agg cs) tm) S nx) : Ok1 E o tm S nx K := by
 obtain ⟨cs', h1, h2⟩ := fillParts_ex _ _ _ hf
 refine Ok1.pure (fp := []) h2 fun cx tm' S' a w ρ he _ h => ?_
 obtain ⟨i, v, hi, hs, _, hz, _, _, hzc, hkc⟩ := hty.info ht
 rw [hk] at hkc
 obtain ⟨fs, hu, hp⟩ := kind_struct hkc
 have hf' := fillParts_ev (tm' := tm') parts.toList _ (fun x => x = cs') (fun p hp => he p.2 (by rw [ho]; simp [Op.operands]; exact ⟨p.1, by simpa using hp⟩)) (h1 (fun x => x = cs') rfl)
 obtain ⟨cs2, us', e1, e2, e3⟩ := fillParts_run h parts.toList _ v.cells.toList _ hf' (zeroChk_cells (w := w) hzc).1
 have e3 : cs2 = cs' := e3
 subst e3
 have hb : E.P.built t (parts.map fun (i, x) => (i, a.eval x)).toList = some us'.toArray := by
  simp only [Program.built, hi, hu, hz, places_mapM hp]
  rw [← e1]
  simp
 refine ⟨.agg us'.toArray, ?_, .gr (.agg e2.len e2.one e2.at_)⟩
 simp [execOp, ho, run_build w t _ _ hb]
end
end Go.Ab
namespace Go.Ab
open Go Go.RowKit
section
variable {E : Env} {cx : Cx} {tm : Tm} {S S0 : Store} {nx : Nat} {a : Act} {w : World} {ρ : Nat → Option Value} {o : Oper} {K : Kt}
theorem Ok1.unit {fp : Fp} {out : Out} {nx' : Nat} {S2 : Store} (h1 : ∀ n, lk out n ≠ none → n ∈ fp.wr) (h2 : ∀ n ∈ fp.wr, n ∈ fp.all) (h3 : nx ≤ nx') (h4 : ∀ n, nx ≤ n → n < nx' → n ∈ fp.wr) (h5 : ∀ n, lk S2 n = lk (ap out S) n)
   (hk : K fp (put o.dst (.tup []) tm) S2 nx')
   (hs : ∀ (cx : Cx) (tm' : Tm) (S' : Store) (a : Act) (w : World) (ρ : Nat → Option Value), (∀ x ∈ o.op.operands, ev E.gl tm' x = ev E.gl tm x) → (∀ n ∈ fp.all, lk S' n = lk S n) → R E cx tm' S' a w ρ → (∀ n, nx ≤ n → n < nx' → ρ n = none) →
     ∃ w' ρ', (execOp a.eval o).run E.P w = .ok .skip w' ∧ R E cx tm' (ap out S') a w' ρ' ∧ ∀ n, ¬ (nx ≤ n ∧ n < nx') → ρ' n = ρ n) : Ok1 E o tm S nx K := by
 refine ⟨fp, out, nx', .tup [], S2, fun cx tm' S' a w ρ Q hd he hf h hn => ?_, h1, h2, h3, h4, h5, hk⟩
 obtain ⟨w', ρ', e1, e2, e4⟩ := hs cx tm' S' a w ρ he hf h hn
 exact wp_unit e1 ⟨ρ', e2.value hd VR.undef, fun n h1 h2 => by rw [e4 n h1]; exact h2⟩
theorem lk_ap2 (o1 o2 : Out) (S : Store) {T : Store} (h : ∀ n, lk T n = lk (ap o2 S) n) (n : Nat) : lk (ap o1 T) n = lk (ap (o1 ++ o2) S) n := by
 rw [ap_append, lk_ap, lk_ap (out := o1), h]
theorem lk_cons_ap {n : Nat} {b : Blk} {T : Store} {o2 : Out} {S : Store} (h : ∀ m, lk T m = lk (ap o2 S) m) (m : Nat) : lk ((n, b) :: T) m = lk (ap ((n, some b) :: o2) S) m := by
 have := lk_ap2 [(n, some b)] o2 S h m
 rw [lk_ap_one' m]
 exact this
theorem R.write (h : R E cx tm S a w ρ) {n g : Nat} {b b' : Blk} (hl : lk S n = some b) (hb : live b = true) (hg : bk b (ρ n) g) {w' : World} (hf : Fr (fun x => x = g) w w')
   (hs : (∀ d u, VI w (AvS cx.G S ρ) d u → VI w' (AvS cx.G (ap [(n, some b')] S) ρ) d u) → SR E.P w' (AvS cx.G (ap [(n, some b')] S) ρ) ρ n b') (hsub : ∀ x, bk b' (ρ n) x → bk b (ρ n) x := by exact fun _ h => h) : R E cx tm (ap [(n, some b')] S) a w' ρ := by
 have lo : ∀ m c, lk [(n, some b')] m = some c → m = n ∧ c = some b' := by
  intro m c hm
  rw [lk_cons] at hm
  by_cases e : n = m
  · rw [if_pos e] at hm; cases hm; exact ⟨e.symm, rfl⟩
  · rw [if_neg e] at hm; simp [lk] at hm
 have here : lk [(n, some b')] n ≠ none := by simp [lk_cons]
 refine h.turn ⟨hf.weaken ?_, fun _ _ h => h, fun m c hm hv x hx => ?_, fun m m' c c' x h1 h2 _ _ _ _ => ?_, fun hi m c hm => ?_⟩
 · rintro x rfl
   exact ⟨n, b, here, hl, hb, hg⟩
 · obtain ⟨rfl, e⟩ := lo m _ hm
   cases e
   exact .inr ⟨m, b, here, hl, hb, hsub x hx⟩
 · rw [(lo m _ h1).1, (lo m' _ h2).1]
 · obtain ⟨rfl, e⟩ := lo m _ hm
   cases e
   exact hs hi
theorem fillX_all {α : Type} (vs us : List α) (h : us.length = vs.length) : fillX us 0 vs = vs := by
 rw [← fillX_eq vs us 0 (by omega)]
 simp [h]
theorem sliceParts_ex {gl : Nat → Option (List D)} {sz : Nat} : ∀ (parts : List (Nat × Operand)) (xs : List (List D)) (K : List (List D) → Prop), sliceParts gl tm S sz parts xs K → ∃ xs', (∀ K' : List (List D) → Prop, K' xs' → sliceParts gl tm S sz parts xs K') ∧ K xs'
 | [], xs, K, h => ⟨xs, fun _ h => h, h⟩
 | (i, x) :: r, xs, K, h => by
   unfold sliceParts at h
   obtain ⟨d, hx, h⟩ := evK_inv h
   split at h
   · rename_i d' hd'
     split at h
     · rename_i hb
       obtain ⟨xs', h1, h2⟩ := sliceParts_ex r _ K h
       refine ⟨xs', fun K' hK => ?_, h2⟩
       unfold sliceParts
       simp only [evK, hx, hd', hb]
       exact h1 K' hK
     · exact h.elim
   · exact h.elim
theorem sliceParts_run {tm0 : Tm} (h : R E cx tm S a w ρ) {sz : Nat} : ∀ (parts : List (Nat × Operand)) (xs : List (List D)) (us : List Value) (K : List (List D) → Prop),
   sliceParts E.gl tm0 S0 sz parts xs K → (∀ p ∈ parts, ev E.gl tm p.2 = ev E.gl tm0 p.2) → (∀ t ∈ partNames E.gl tm0 parts, ∀ ys, (lk S0 t).bind imB = some ys → lk S t = some (.fr ys)) → Rows (VI w (AvS cx.G S ρ)) sz xs us →
   ∃ xs' us', Instr.fill (fun i => some (i * sz, sz)) us.toArray (parts.map fun (i, x) => (i, a.eval x)) = some us'.toArray ∧ Rows (VI w (AvS cx.G S ρ)) sz xs' us' ∧ xs'.length = xs.length ∧ K xs'
 | [], xs, us, K, hf, _, _, hr => ⟨xs, us, rfl, hr, rfl, hf⟩
 | (i, x) :: r, xs, us, K, hf, he, hn, hr => by
   unfold sliceParts at hf
   obtain ⟨d, hx, hf⟩ := evK_inv hf
   split at hf
   · rename_i d' hd'
     split at hf
     · rename_i hb
       simp only [Bool.and_eq_true] at hb
       obtain ⟨hb1, hb2⟩ := hb
       have hsz : (cellsOf d').length = sz := Nat.eq_of_beq_eq_true hb1
       have hil : i < xs.length := Nat.le_of_ble_eq_true hb2
       have hvi := immD_VI (S0 := S0) h (fun t ht => hn t (by simp [partNames, hx, ht])) (h.eval ((he (i, x) (by simp)).trans hx)) hd'
       obtain ⟨q1, q2, q3⟩ := hvi.cells
       have hi : xs[i]? = some xs[i] := List.getElem?_eq_getElem hil
       have hcl : (xs[i]).length = sz := hr.el _ (List.getElem_mem hil)
       have hset := hr.set (off := 0) hi (by omega) q1 q2 q3
       rw [fillX_all _ _ (by rw [hcl, hsz])] at hset
       obtain ⟨xs', us', e1, e2, e3, e4⟩ := sliceParts_run h r _ _ K hf (fun p hp => he p (by simp [hp])) (fun t ht => hn t (by simp [partNames, hx, ht])) hset
       refine ⟨xs', us', ?_, e2, by rw [e3, List.length_set], e4⟩
       rw [List.map_cons, fill_step _ us i (i * sz) sz _ _ rfl (by rw [← q1, hsz]) ?_]
       · simpa using e1
       · have : (i + 1) * sz ≤ xs.length * sz := Nat.mul_le_mul_right sz hil
         rw [Nat.add_mul] at this
         rw [hr.len]
         omega
     · exact hf.elim
   · exact hf.elim
theorem Ok1.frzNew {ns fp : List Nat} {b : Blk} (hsub : ∀ n ∈ ns, n ∈ fp) (hk : K ⟨nx :: fp, nx :: fp⟩ (put o.dst (.own nx) tm) ((nx, b) :: frz ns S) (nx + 1))
   (hs : ∀ (cx : Cx) (tm' : Tm) (S' : Store) (a : Act) (w : World) (ρ : Nat → Option Value), (∀ x ∈ o.op.operands, ev E.gl tm' x = ev E.gl tm x) → (∀ n ∈ fp, lk S' n = lk S n) → R E cx tm' S' a w ρ → R E cx tm' (ap (frzOut S ns) S') a w ρ → ρ nx = none →
     ∃ v w' u, (execOp a.eval o).run E.P w = .ok (.value v) w' ∧ R E cx tm' (ap [(nx, some b)] (ap (frzOut S ns) S')) a w' (withName ρ nx u) ∧ VR w' (AvS cx.G (ap [(nx, some b)] (ap (frzOut S ns) S')) (withName ρ nx u)) (withName ρ nx u) (.own nx) v) : Ok1 E o tm S nx K := by
 refine Ok1.val (fp := ⟨nx :: fp, nx :: fp⟩) (out := (nx, some b) :: frzOut S ns) (nx' := nx + 1) (d := .own nx) (fun n h => ?_) (fun n h => h) (Nat.le_succ _) (fun n h1 h2 => by simp; omega) (fun n => lk_cons_ap (frz_ap ns S) n) hk ?_
 · rw [lk_cons] at h
   by_cases e : nx = n
   · simp [e]
   · rw [if_neg e, lk_frzOut] at h
     by_cases hn : n ∈ ns
     · simp [hsub n hn]
     · rw [if_neg hn] at h; exact absurd rfl h
 · intro cx tm' S' a w ρ he hf h hn
   have hag : ∀ n ∈ fp, lk S' n = lk S n := fun n hn => hf n (by simp [hn])
   obtain ⟨v, w', u, e1, e2, e3⟩ := hs cx tm' S' a w ρ he hag h (h.frzs ns fun t ht => hag t (hsub t ht)) (hn nx (Nat.le_refl _) (Nat.lt_succ_self _))
   have heq : ap ((nx, some b) :: frzOut S ns) S' = ap [(nx, some b)] (ap (frzOut S ns) S') := rfl
   refine ⟨v, w', _, e1, by rw [heq]; exact e2, by rw [heq]; exact e3, fun n hne => withName_other u (by rintro rfl; exact hne ⟨Nat.le_refl _, Nat.lt_succ_self _⟩)⟩
theorem buildSlice_run {P : Program} (w : World) (t e : TypeId) (n : Nat) (parts : Array (Nat × Value)) (us : List Value) (i : TypeInfo) (z : Value) (hu : P.underlying t = some (.slice e)) (hi : P.info? e = some i) (hz : i.zero = some z)
   (hn : n ≤ 65536) (hs : i.size ≤ 256) (hfill : Instr.fill (fun j => some (j * i.size, i.size)) (madeCells z.cells (n * i.size)) parts.toList = some us.toArray) :
   (Instr.buildSlice t n parts).run P w = .ok (.slice (some ⟨w.heap.size, 0, none⟩) n n) (w.alloc (.cells us.toArray e)) := by
 have hsmall : ¬ n * i.size > 16777216 := by
  have := Nat.mul_le_mul hn hs
  omega
 by_cases h0 : n * i.size = 0
 · have hm : madeCells z.cells (n * i.size) = #[] := by rw [h0]; simp [madeCells]
   rw [hm] at hfill
   have ha : ∀ zero : Array Value, (Array.range (n * i.size)).map (fun x => zero[x % zero.size]!) = #[] := by intro zero; rw [h0]; simp
   unfold Instr.buildSlice
   simp only [Sem.run_bind, run_underlying hu, Result.andThen_ok, Go.sizeOf, typeInfo, hi, Sem.run_pure, run_program, ha, hfill]
   simp [h0, newRow]
 · exact run_buildSlice w t e n parts us.toArray i z hu hi hz hsmall h0 hfill
theorem ok_buildSlice (hty : TyOk E) {t e : TypeId} {n : Nat} {parts : Array (Nat × Operand)} (ho : o.op = .buildSlice t n parts) {td te : TD} (ht : E.ty t = some td) (hkd : td.kind = .slice e) (hte : E.ty e = some te)
   (hf : sliceParts E.gl tm S te.size parts.toList (List.replicate n (cellsOf te.zero)) fun xs => n ≤ 65536 ∧ te.size ≤ 256 ∧
     K ⟨nx :: partNames E.gl tm parts.toList, nx :: partNames E.gl tm parts.toList⟩ (put o.dst (.own nx) tm) ((nx, .own e xs) :: frz (partNames E.gl tm parts.toList) S) (nx + 1)) : Ok1 E o tm S nx K := by
 obtain ⟨xs', hx1, hn, hs256, hk⟩ := sliceParts_ex _ _ _ hf
 refine Ok1.frzNew (ns := partNames E.gl tm parts.toList) (fun _ h => h) hk fun cx tm' S' a w ρ he hag h h' hfresh => ?_
 have hu : E.P.underlying t = some (.slice e) := by
  have := hty.kind ht
  rw [hkd] at this
  exact kind_slice this
 obtain ⟨i, v, hi, hs, _, hz, hpos, hzl, hzc, _⟩ := hty.info hte
 obtain ⟨c1, c2⟩ := zeroChk_cells (w := w) (Av := AvS cx.G (ap (frzOut S (partNames E.gl tm parts.toList)) S') ρ) (ρ := ρ) hzc
 have hvs : v.cells.size = te.size := by have := c1.len; rw [hzl] at this; simpa using this.symm
 have hrw := Rows.made (z := v.cells) (zs := cellsOf te.zero) (by rw [hzl, hvs]) (by omega) c1.one c2 n
 rw [hvs] at hrw
 obtain ⟨xs2, us', e1, e2, e3, e4⟩ := sliceParts_run (S0 := S) h' parts.toList _ _ _ (hx1 (fun x => x = xs') rfl) (fun p hp => he p.2 (by rw [ho]; simp [Op.operands]; exact ⟨p.1, by simpa using hp⟩)) (frz_fits hag) hrw
 have e4 : xs2 = xs' := e4
 subst e4
 have hlen : xs2.length = n := by rw [e3]; simp
 have hce : E.P.cellsOf e = te.size := hty.cells hte
 have hfill : Instr.fill (fun i => some (i * te.size, te.size)) (madeCells v.cells (n * te.size)) (parts.map fun (i, x) => (i, a.eval x)).toList = some us'.toArray := by
  rw [← e1]
  simp
 have hrun := buildSlice_run (P := E.P) w t e n (parts.map fun (i, x) => (i, a.eval x)) us' i v hu hi hz hn (by rw [hs]; exact hs256) (by rw [hs]; exact hfill)
 have hown : (w.alloc (.cells us'.toArray e)).ownsRow w.heap.size e (E.P.cellsOf e) (.slice (some ⟨w.heap.size, 0, none⟩) n n) xs2.length us' := by
  rw [hlen, hce]
  refine ⟨by rw [e2.len, hlen], .inr ⟨w.heap.size, n, us'.toArray, rfl, Nat.le_refl _, heap_alloc_new w _, Nat.le_refl _, by simp only [maxLen]; omega, by simp [e2.len, hlen], ?_⟩⟩
  rw [List.take_of_length_le]
  simp [e2.len, hlen]
 rw [← hce] at e2
 obtain ⟨h2, hv⟩ := h'.own hfresh e2 (fr_alloc w _) hown
 exact ⟨_, _, _, by simp [execOp, ho, hrun], h2, hv⟩
theorem ok_make (hty : TyOk E) {t e : TypeId} {x y : Operand} (ho : o.op = .makeSlice t x y) {td te : TD} (ht : E.ty t = some td) (hkd : td.kind = .slice e) (hte : E.ty e = some te)
   {kl kc : IntKind} {n : Nat} (hx : ev E.gl tm x = some (.k kl (n : Int))) (hy : ev E.gl tm y = some (.k kc (n : Int))) (hn : n ≤ room) (hb : te.bytes ≤ wide)
   (hk : K (fpN nx) (put o.dst (.own nx) tm) ((nx, .own e (List.replicate n (cellsOf te.zero))) :: S) (nx + 1)) : Ok1 E o tm S nx K := by
 refine Ok1.one hk fun cx tm' S' a w ρ he h hfresh => ?_
 have hu : E.P.underlying t = some (.slice e) := by
  have := hty.kind ht
  rw [hkd] at this
  exact kind_slice this
 obtain ⟨i, v, hi, hs, hby, hz, hpos, hzl, hzc, _⟩ := hty.info hte
 obtain ⟨c1, c2⟩ := zeroChk_cells (w := w) (Av := AvS cx.G S' ρ) (ρ := ρ) hzc
 have hvs : v.cells.size = te.size := by have := c1.len; rw [hzl] at this; simpa using this.symm
 have hrw := Rows.made (z := v.cells) (zs := cellsOf te.zero) (by rw [hzl, hvs]) (by omega) c1.one c2 n
 rw [hvs] at hrw
 have hce : E.P.cellsOf e = te.size := hty.cells hte
 have hprod : te.bytes * n ≤ wide * room := Nat.mul_le_mul hb hn
 unfold room at hn hprod
 unfold wide at hprod
 have hpi : ((i.bytes : Nat) : Int) * ((n : Nat) : Int) ≤ 281474976710656 := by
  have h3 : ((te.bytes * n : Nat) : Int) ≤ 281474976710656 := by omega
  rw [hby]
  rw [Int.natCast_mul] at h3
  exact h3
 have hrun := run_make (P := E.P) w t e i v hu hi hz kl kc (n : Int) (n : Int) (by omega) (by omega) hpi (by omega)
 simp only [Int.toNat_natCast, hs] at hrun
 have hown : (w.alloc (.cells (madeCells v.cells (n * te.size)) e)).ownsRow w.heap.size e (E.P.cellsOf e) (.slice (some ⟨w.heap.size, 0, none⟩) n n) (List.replicate n (cellsOf te.zero)).length (madeCells v.cells (n * te.size)).toList := by
  rw [hce, List.length_replicate]
  refine ⟨by simp [size_madeCells], .inr ⟨w.heap.size, n, _, rfl, Nat.le_refl _, heap_alloc_new w _, Nat.le_refl _, by simp only [maxLen]; omega, by simp [size_madeCells], ?_⟩⟩
  rw [List.take_of_length_le]
  simp [size_madeCells]
 rw [← hce] at hrw
 obtain ⟨h2, hv⟩ := h.own hfresh hrw (fr_alloc w _) (by rw [hce] at *; exact hown)
 have h1 := (h.eval ((he x (by simp [ho, Op.operands])).trans hx)).k_inv
 have h2' := (h.eval ((he y (by simp [ho, Op.operands])).trans hy)).k_inv
 refine ⟨_, _, _, ?_, h2, hv⟩
 simp [execOp, ho, h1, h2', hrun]
theorem row_written {p q : D → Value → Prop} (hpq : ∀ d u, p d u → q d u) {w : World} {e : TypeId} {sz g len c off i : Nat} {cur : Array Value} {xs : List (List D)} {us vs : List Value} {cs ds : List D} (hown : w.ownsRow 0 e sz (.slice (some ⟨g, 0, none⟩) len c) xs.length us) (hh : w.heap[g]? = some (.cells cur e (0, 0)))
   (hrw : Rows p sz xs us) (hcs : xs[i]? = some cs) (hle : off + ds.length ≤ cs.length) (q1 : ds.length = vs.length) (q2 : ∀ v ∈ vs, v.oneCell' = true) (q3 : ∀ (i : Nat) (d : D) (u : Value), ds[i]? = some d → vs[i]? = some u → p d u) :
   i * sz + off + vs.length ≤ cur.size ∧ (w.setRow g (fillX cur.toList (i * sz + off) vs).toArray).ownsRow 0 e sz (.slice (some ⟨g, 0, none⟩) len c) (xs.set i (fillX cs off ds)).length (fillX us (i * sz + off) vs) ∧ Rows q sz (xs.set i (fillX cs off ds)) (fillX us (i * sz + off) vs) := by
 have hset := hrw.set hcs hle q1 q2 q3
 have hil : i < xs.length := (List.getElem?_eq_some_iff.1 hcs).1
 have hcl : cs.length = sz := hrw.el cs (List.mem_of_getElem? hcs)
 have hul : us.length = xs.length * sz := hrw.len
 have hfit : i * sz + off + vs.length ≤ us.length := by
  have : (i + 1) * sz ≤ xs.length * sz := Nat.mul_le_mul_right sz hil
  rw [Nat.add_mul] at this
  omega
 rcases hown.2 with ⟨hbad, _⟩ | ⟨g', cap, cur', hgv, _, hh', hnc, hcm, hcsz, htake⟩
 · cases hbad
 · simp at hgv
   obtain ⟨rfl, rfl, rfl⟩ := hgv
   rw [hh] at hh'
   cases hh'
   have hcap : xs.length * sz ≤ cur.size := by rw [hcsz]; exact Nat.mul_le_mul_right sz hnc
   refine ⟨by omega, ⟨?_, .inr ⟨g, _, _, by rw [List.length_set], Nat.zero_le _, setRow_heap w g _ _ e _ hh, ?_, hcm, ?_, ?_⟩⟩, hset.mono hpq⟩
   · rw [fillX_len, List.length_set]; exact hul
   · rw [List.length_set]; exact hnc
   · rw [List.size_toArray, fillX_len, Array.length_toList]; exact hcsz
   · rw [List.length_set, take_fillX _ _ _ _ (by omega) (by rw [Array.length_toList]; exact hcap), htake]
theorem ok_store (hty : TyOk E) {t : TypeId} {x y : Operand} (ho : o.op = .store t x y) {da dx : D} (hx : ev E.gl tm x = some da) (hy : ev E.gl tm y = some dx) {td : TD} (ht : E.ty t = some td)
   (hsz : td.size = (cellsOf dx).length) (htup : isTup dx = false) (hk : storeK E S da dx fun fp S' => K fp (put o.dst (.tup []) tm) S' nx) : Ok1 E o tm S nx K := by
 have fin : ∀ {cx : Cx} {tm' S' a w w' ρ} {out : Out}, (Instr.storeAt t (Act.eval a x) (a.eval y)).run E.P w = .ok () w' → R E cx tm' (ap out S') a w' ρ →
    ∃ w' ρ', (execOp a.eval o).run E.P w = .ok .skip w' ∧ R E cx tm' (ap out S') a w' ρ' ∧ ∀ n, ¬ (nx ≤ n ∧ n < nx) → ρ' n = ρ n := by
  intro cx tm' S' a w w' ρ out hrun hR
  exact ⟨w', ρ, by simp [execOp, ho, hrun], hR, fun _ _ => rfl⟩
 unfold storeK at hk
 split at hk
 · rename_i n off
   split at hk
   · rename_i e cs hl
     split at hk
     · rename_i hb
       have hle : off + (cellsOf dx).length ≤ cs.length := Nat.le_of_ble_eq_true hb
       rw [fL_eq, fillX_eq _ _ _ hle] at hk
       refine Ok1.unit (fp := ⟨[n], [n]⟩) (out := [(n, some (.box e (fillX cs off (cellsOf dx))))]) (nx' := nx) (fun m hm => by simp [lk_one hm]) (fun _ h => h) (Nat.le_refl _) (fun m h1 h2 => by omega) (fun m => ?_) hk ?_
       · rfl
       · intro cx tm' S' a w ρ he hf h hfresh
         have hvx := (h.eval ((he y (by simp [ho, Op.operands])).trans hy)).vg htup
         have hcx := hvx.cells
         have hlen : (a.eval y).cells.toList.length = td.size := by rw [hsz]; exact hcx.len.symm
         have hl' : lk S' n = some (.box e cs) := by rw [hf n (by simp)]; exact hl
         obtain ⟨b, hr, hax⟩ := (h.eval ((he x (by simp [ho, Op.operands])).trans hx)).bp_inv
         obtain ⟨b', us, hr', hh, hcl, h1, hc⟩ := h.st _ _ hl'
         rw [hr] at hr'
         simp at hr'
         subst hr'
         refine fin (w' := w.setRow b (fillX us off (a.eval y).cells.toList).toArray) ?_ ?_
         · rw [hax]
           have := storeVar_run hty ht hh (v := a.eval y) (off := off) hlen (by simp; omega) hcx.one
           simpa using this
         · refine h.write hl' rfl (g := b) (by rw [hr]; rfl) (fr_setRow w b _) fun hi => ?_
           have hcs : Cs w (AvS cx.G S' ρ) ρ cs us := ⟨hcl, h1, hc⟩
           have hf := hcs.fill hcx hle
           exact ⟨b, fillX us off (a.eval y).cells.toList, hr, setRow_heap w b _ _ e _ hh, hf.len, hf.one, fun i d u p q => (hf.at_ i d u p q).mono hi (fun _ _ h => h)⟩
     · exact hk.elim
   · exact hk.elim
 · rename_i n sz i off
   split at hk
   · rename_i e xs hl
     split at hk
     · rename_i dx' hdx
       obtain ⟨hnm, hk⟩ := hk
       obtain ⟨te, hte, hsz', cs, hcs, hle, hk⟩ := szK_inv hk
       have hz : E.P.cellsOf e = sz := by rw [hty.cells hte, hsz']
       have hnin : n ∉ nmD dx := fun hin => by rw [memB_iff.2 hin] at hnm; cases hnm
       refine Ok1.unit (fp := ⟨n :: nmD dx, n :: nmD dx⟩) (out := (n, some (.own e (xs.set i (fillX cs off (cellsOf dx'))))) :: frzOut S (nmD dx)) (nx' := nx) (fun m hm => ?_) (fun _ h => h) (Nat.le_refl _) (fun m h1 h2 => by omega) (fun m => ?_) hk ?_
       · rw [lk_cons] at hm
         by_cases e : n = m
         · simp [e]
         · rw [if_neg e, lk_frzOut] at hm
           by_cases hin : m ∈ nmD dx
           · simp [hin]
           · rw [if_neg hin] at hm; exact absurd rfl hm
       · exact lk_ap2 [(n, some (.own e (xs.set i (fillX cs off (cellsOf dx')))))] (frzOut S (nmD dx)) S (frz_ap (nmD dx) S) m
       · intro cx tm' S' a w ρ he hf h hfresh
         have hag : ∀ m ∈ nmD dx, lk S' m = lk S m := fun m hm => hf m (by simp [hm])
         have h' := h.frzs (S0 := S) (nmD dx) hag
         have hl' : lk (ap (frzOut S (nmD dx)) S') n = some (.own e xs) := by
          rw [lk_ap, lk_frzOut, if_neg hnin]
          simp only
          rw [hf n (by simp)]
          exact hl
         have hvy := h'.eval ((he y (by simp [ho, Op.operands])).trans hy)
         have hvi := immD_VI (S0 := S) h' (frz_fits hag) hvy hdx
         obtain ⟨q1, q2, q3⟩ := hvi.cells
         have hlen' : (a.eval y).cells.toList.length = td.size := by rw [hsz]; exact ((hvy.vg htup).cells.len).symm
         obtain ⟨g, len, c, hr, hax⟩ := (h.eval ((he x (by simp [ho, Op.operands])).trans hx)).op_inv
         obtain ⟨u0, us, hr', hown, hc⟩ := h'.st _ _ hl'
         have hr2 := nmv_of hr' (top_row hown)
         rw [hr] at hr2
         simp at hr2
         subst hr2
         rw [hz] at hown hc
         have hh : ∃ cur, w.heap[g]? = some (.cells cur e (0, 0)) := by
          rcases hown.2 with ⟨hbad, _⟩ | ⟨g', cap, cur, hgv, _, hh, _⟩
          · cases hbad
          · simp at hgv
            obtain ⟨rfl, _⟩ := hgv
            exact ⟨cur, hh⟩
         obtain ⟨cur, hh⟩ := hh
         obtain ⟨w1, w2, _⟩ := row_written (q := fun _ _ => True) (fun _ _ _ => trivial) hown hh hc hcs hle q1 q2 q3
         refine fin (w' := w.setRow g (fillX cur.toList (i * sz + off) (a.eval y).cells.toList).toArray) ?_ ?_
         · rw [hax]
           exact storeVar_run hty ht hh hlen' (by rw [← hlen']; omega) q2
         · show R E cx tm' (ap [(n, some (.own e (xs.set i (fillX cs off (cellsOf dx')))))] (ap (frzOut S (nmD dx)) S')) a _ ρ
           refine h'.write hl' rfl (g := g) (by rw [hr']; rfl) (fr_setRow w g _) fun hi => ?_
           obtain ⟨_, _, w3⟩ := row_written (q := VI (w.setRow g (fillX cur.toList (i * sz + off) (a.eval y).cells.toList).toArray) (AvS cx.G (ap [(n, some (.own e (xs.set i (fillX cs off (cellsOf dx')))))] (ap (frzOut S (nmD dx)) S')) ρ)) hi hown hh hc hcs hle q1 q2 q3
           exact ⟨_, _, hr', by rw [hz]; exact w2, by rw [hz]; exact w3⟩
     · exact hk.elim
   · rename_i e xs hl
     obtain ⟨te, hte, hsz', cs, hcs, hle, hk⟩ := szK_inv hk
     have hz : E.P.cellsOf e = sz := by rw [hty.cells hte, hsz']
     refine Ok1.unit (fp := ⟨[n], [n]⟩) (out := [(n, some (.row e (xs.set i (fillX cs off (cellsOf dx)))))]) (nx' := nx) (fun m hm => by simp [lk_one hm]) (fun _ h => h) (Nat.le_refl _) (fun m h1 h2 => by omega) (fun m => rfl) hk ?_
     intro cx tm' S' a w ρ he hf h hfresh
     have hl' : lk S' n = some (.row e xs) := by rw [hf n (by simp)]; exact hl
     have hvx := (h.eval ((he y (by simp [ho, Op.operands])).trans hy)).vg htup
     have hcx := hvx.cells
     have hlen' : (a.eval y).cells.toList.length = td.size := by rw [hsz]; exact hcx.len.symm
     obtain ⟨g, len, c, hr, hax⟩ := (h.eval ((he x (by simp [ho, Op.operands])).trans hx)).op_inv
     obtain ⟨u0, us, hr', hown, hc⟩ := h.st _ _ hl'
     have hr2 := nmv_of hr' (top_row hown)
     rw [hr] at hr2
     simp at hr2
     subst hr2
     rw [hz] at hown hc
     have hh : ∃ cur, w.heap[g]? = some (.cells cur e (0, 0)) := by
      rcases hown.2 with ⟨hbad, _⟩ | ⟨g', cap, cur, hgv, _, hh, _⟩
      · cases hbad
      · simp at hgv
        obtain ⟨rfl, _⟩ := hgv
        exact ⟨cur, hh⟩
     obtain ⟨cur, hh⟩ := hh
     obtain ⟨w1, w2, _⟩ := row_written (q := fun _ _ => True) (fun _ _ _ => trivial) hown hh hc hcs hle hcx.len hcx.one hcx.at_
     refine fin (w' := w.setRow g (fillX cur.toList (i * sz + off) (a.eval y).cells.toList).toArray) ?_ ?_
     · rw [hax]
       exact storeVar_run hty ht hh hlen' (by rw [← hlen']; omega) hcx.one
     · refine h.write hl' rfl (g := g) (by rw [hr']; rfl) (fr_setRow w g _) fun hi => ?_
       obtain ⟨_, _, w3⟩ := row_written (q := VA (w.setRow g (fillX cur.toList (i * sz + off) (a.eval y).cells.toList).toArray) (AvS cx.G (ap [(n, some (.row e (xs.set i (fillX cs off (cellsOf dx)))))] S') ρ) ρ) (fun d u h => h.mono hi fun _ _ h => h) hown hh hc hcs hle hcx.len hcx.one hcx.at_
       exact ⟨_, _, hr', by rw [hz]; exact w2, by rw [hz]; exact w3⟩
   · rename_i e e2 zs hl
     split at hk
     · rename_i a0
       split at hk
       · rename_i e3 ys hla
         split at hk
         · rename_i hbe
           simp only [Bool.and_eq_true] at hbe
           have he2 := Nat.eq_of_beq_eq_true hbe.1
           have hz := Nat.eq_of_beq_eq_true hbe.2
           subst he2
           subst hz
           obtain ⟨hil, hk⟩ := hk
           refine Ok1.unit (fp := ⟨[n, a0], [n]⟩) (out := [(n, some (.deep e e2 (zs.set i (.nm a0))))]) (nx' := nx) (fun m hm => by simp [lk_one hm]) (fun m hm => by simp at hm; simp [hm]) (Nat.le_refl _) (fun m h1 h2 => by omega) (fun m => rfl) hk ?_
           intro cx tm' S' a w ρ he hf h hfresh
           have hl' : lk S' n = some (.deep e e2 zs) := by rw [hf n (by simp)]; exact hl
           have hla' : lk S' a0 = some (.own e2 ys) := by rw [hf a0 (by simp)]; exact hla
           obtain ⟨u, vs, us, hd⟩ := h.st _ _ hl'
           obtain ⟨g, len, c, hr, hax⟩ := (h.eval ((he x (by simp [ho, Op.operands])).trans hx)).op_inv
           rw [nmv_tuple hd.name] at hr
           simp only [Option.some.injEq] at hr
           subst hr
           have hyv := (h.eval ((he y (by simp [ho, Op.operands])).trans hy)).own_inv
           obtain ⟨ua, ua', hra, hoa, _⟩ := h.st _ _ hla'
           have hva : a.eval y = ua := by
            rw [nmv_of hra (top_row hoa)] at hyv
            exact (Option.some.inj hyv).symm
           have h1a : (a.eval y).oneCell' = true := by rw [hva]; exact one_row hoa
           have hcy : (a.eval y).cells.toList = [a.eval y] := by rw [cells_one h1a]
           have hh : ∃ cur, w.heap[g]? = some (.cells cur e (0, 0)) := by
            rcases hd.own.2 with ⟨hbad, _⟩ | ⟨g', cap, cur, hgv, _, hh, _⟩
            · cases hbad
            · simp at hgv
              obtain ⟨rfl, _⟩ := hgv
              exact ⟨cur, hh⟩
           obtain ⟨cur, hh⟩ := hh
           have hrw : Rows (fun _ _ => True) 1 (zs.map fun _ => [D.junk]) us := by
            refine ⟨by rw [hd.lu, List.length_map, Nat.mul_one], fun cs hcs => ?_, hd.one, fun i j cs d p q => ?_⟩
            · obtain ⟨_, _, rfl⟩ := List.mem_map.1 hcs
              rfl
            · have hlt : i < us.length := by have := (List.getElem?_eq_some_iff.1 p).1; rw [List.length_map] at this; rw [hd.lu]; exact this
              simp only [List.getElem?_map, Option.map_eq_some_iff] at p
              obtain ⟨_, _, rfl⟩ := p
              have hj : j < 1 := (List.getElem?_eq_some_iff.1 q).1
              have : i * 1 + j = i := by omega
              rw [this]
              exact ⟨us[i], List.getElem?_eq_getElem hlt, trivial⟩
           have hown' : w.ownsRow 0 e 1 (.slice (some ⟨g, 0, none⟩) len c) (zs.map fun _ => [D.junk]).length us := by rw [List.length_map]; exact hd.own
           obtain ⟨w1, w2, _⟩ := row_written (q := fun _ _ => True) (fun _ _ _ => trivial) hown' hh hrw (i := i) (off := 0) (cs := [D.junk]) (ds := [D.junk]) (vs := [a.eval y]) (by rw [List.getElem?_map, List.getElem?_eq_getElem hil]; rfl) (by simp) rfl (by simpa using h1a) (fun _ _ _ _ _ => trivial)
           have hus : fillX us (i * 1 + 0) [a.eval y] = us.set i (a.eval y) := by simp [fillX]
           rw [hus] at w2
           rw [List.length_set, List.length_map] at w2
           refine fin (w' := w.setRow g (fillX cur.toList (i * 1 + 0) [a.eval y]).toArray) ?_ ?_
           · rw [hax]
             have := storeVar_run hty ht hh (v := a.eval y) (off := i * 1 + 0) (by rw [hcy, hsz]; rfl) (by rw [hsz]; simpa [cellsOf] using w1) (by rw [hcy]; simpa using h1a)
             rw [hcy] at this
             exact this
           · have an : ∀ {j : Nat} {xs : List (List D)}, (zs.set i (.nm a0))[j]? = some (.an xs) → j ≠ i ∧ zs[j]? = some (.an xs) := by
               intro j xs hj
               rw [List.getElem?_set] at hj
               split at hj
               · (try split at hj) <;> cases hj
               · rename_i hne
                 exact ⟨fun e => hne e.symm, hj⟩
             refine h.write hl' rfl (g := g) (hd.bk.2 (.inl rfl)) (fr_setRow w g _) (fun hi => ?_) fun x hx => ?_
             · refine ⟨_, vs, us.set i (a.eval y), hd.name, by rw [List.length_set]; exact hd.lv, by rw [List.length_set, List.length_set]; exact hd.lu, by rw [List.length_set]; exact w2, fun x hx => ?_, fun j z x v h1 h2 h3 => ?_, fun j xs v x h1 h2 h3 => hd.apart j xs v x (an h1).2 h2 h3, fun j k xs ys v v' x h1 h2 h3 h4 h5 h6 => hd.dis j k xs ys v v' x (an h1).2 (an h2).2 h3 h4 h5 h6⟩
               · rcases List.mem_or_eq_of_mem_set hx with hx | rfl
                 · exact hd.one x hx
                 · exact h1a
               · by_cases e : i = j
                 · subst e
                   rw [List.getElem?_set, if_pos rfl, if_pos hil] at h1
                   rw [List.getElem?_set, if_pos rfl, if_pos (by rw [hd.lu]; exact hil)] at h2
                   cases h1
                   cases h2
                   exact hyv
                 · rw [List.getElem?_set, if_neg e] at h1 h2
                   have hs := hd.slot j z x v h1 h2 h3
                   cases z with
                   | an xs =>
                     obtain ⟨e1, zs', e2, e3⟩ := hs
                     refine ⟨e1, zs', ownsRow_kept e2 fun y hy => ?_, e3.mono hi⟩
                     refine setRow_other w g y _ ?_
                     rintro rfl
                     exact hd.apart j xs v y h1 h3 hy rfl
                   | nm b => exact hs
                   | lost => trivial
             · rcases hx with ⟨u', vs', q1, q2⟩
               obtain ⟨rfl, rfl⟩ := tup_inj hd.name q1
               refine ⟨_, _, hd.name, q2.imp id ?_⟩
               rintro ⟨j, xs, v, r1, r2, r3⟩
               exact ⟨j, xs, v, (an r1).2, r2, r3⟩
         · exact hk.elim
       · exact hk.elim
     · exact hk.elim
   · exact hk.elim
 · exact hk.elim
end
end Go.Ab
namespace Go.Ab
open Go Go.RowKit Go.Lib
section
variable {E : Env} {cx : Cx} {tm : Tm} {S S0 : Store} {nx : Nat} {a : Act} {w : World} {ρ : Nat → Option Value} {o : Oper} {K : Kt}
theorem run_append_of_nil' (base : Nat) (t ty' e : TypeId) (i : TypeInfo) (size : Nat) {P : Program} (ht : P.underlying t = some (.slice e)) (hi : P.info? e = some i)
   (v : Value) (n : Nat) (xs : List Value) (hown : w.ownsRow base e size v n xs) (c : Nat) : (Builtin.append_ #[t, t] ty' #[v, .slice none 0 c]).run P w = .ok v w := by
 rcases hown.2 with ⟨rfl, rfl⟩ | ⟨g, cap, cur, rfl, _, _, hnc, _⟩
 · simp [Builtin.append_, run_underlying ht, Go.sizeOf, typeInfo, hi, Builtin.lenOf, Builtin.firstCells]
 · simp [Builtin.append_, run_underlying ht, Go.sizeOf, typeInfo, hi, Builtin.lenOf, Builtin.firstCells, hnc, storeCells]
theorem VI.flat {Av : Nat → Prop} {xs : List (List D)} {v : Value} {sz : Nat} (h : VI w Av (.sl xs) v) (hz : ∀ cs ∈ xs, cs.length = sz) :
   ∃ A n c us, v = .slice A n c ∧ xs.length = n ∧ Rows (VI w Av) sz xs us ∧ (A = none → n = 0 ∧ c = 0) ∧ ∀ ad, A = some ad → ∀ j u, us[j]? = some u → w.cell? (ad.add j) = some u := by
 obtain ⟨A, n, c, rfl, hn, hnc, hc, hnone, hsome⟩ := h.sl_inv
 cases A with
 | none =>
   obtain ⟨rfl, rfl⟩ := hnone rfl
   exact ⟨none, n, 0, [], rfl, hn, ⟨by simp, by simp, by simp, by simp⟩, fun _ => ⟨by simpa using hn.symm, rfl⟩, fun ad h => by cases h⟩
 | some ad =>
   obtain ⟨hb, hav, sz', hsz', hcell⟩ := hsome ad rfl
   by_cases hx : xs = []
   · subst hx
     exact ⟨some ad, n, c, [], rfl, hn, ⟨by simp, by simp, by simp, by simp⟩, fun h => (by cases h), fun ad h j u hu => by simp at hu⟩
   · obtain ⟨c0, r0, rfl⟩ := List.exists_cons_of_ne_nil hx
     have hss : sz' = sz := by rw [← hsz' c0 (by simp), hz c0 (by simp)]
     subst hss
     have key : ∀ (l : List (List D)) (k : Nat), (∀ cs ∈ l, cs.length = sz') → (∀ (i j : Nat) (cs : List D) (d : D), l[i]? = some cs → cs[j]? = some d → ∃ u, w.cell? (ad.add ((k + i) * sz' + j)) = some u ∧ u.oneCell' = true ∧ VI w Av d u) →
        ∃ us : List Value, us.length = l.length * sz' ∧ (∀ u ∈ us, u.oneCell' = true) ∧ (∀ j u, us[j]? = some u → w.cell? (ad.add (k * sz' + j)) = some u) ∧
          ∀ (i j : Nat) (cs : List D) (d : D), l[i]? = some cs → cs[j]? = some d → ∃ u, us[i * sz' + j]? = some u ∧ VI w Av d u := by
      intro l
      induction l with
      | nil => intro k _ _; exact ⟨[], by simp, by simp, by simp, by simp⟩
      | cons c r ih =>
        intro k hl hc
        obtain ⟨us, u1, u2, u3, u4⟩ := ih (k + 1) (fun cs h => hl cs (by simp [h])) (fun i j cs d p q => by
         have := hc (i + 1) j cs d (by simpa using p) q
         have e : k + 1 + i = k + (i + 1) := by omega
         rw [e]; exact this)
        obtain ⟨vs, v1, v2⟩ := list_of (fun (j : Nat) (d : D) (u : Value) => w.cell? (ad.add (k * sz' + j)) = some u ∧ u.oneCell' = true ∧ VI w Av d u) c (fun j d hd => by have := hc 0 j c d rfl hd; simpa using this)
        have hcl : c.length = sz' := hl c (by simp)
        have atv : ∀ j u, vs[j]? = some u → ∃ d, c[j]? = some d := fun j u hu => ⟨_, List.getElem?_eq_getElem (by rw [← v1]; exact (List.getElem?_eq_some_iff.1 hu).1)⟩
        refine ⟨vs ++ us, by simp [v1, u1, hcl, Nat.add_mul]; omega, fun u hu => ?_, fun j u hu => ?_, fun i j cs d p q => ?_⟩
        · rcases List.mem_append.1 hu with h | h
          · obtain ⟨j, hj⟩ := List.mem_iff_getElem?.1 h
            obtain ⟨d, hd⟩ := atv j u hj
            exact (v2 j d u hd hj).2.1
          · exact u2 u h
        · by_cases hj : j < vs.length
          · rw [List.getElem?_append_left hj] at hu
            obtain ⟨d, hd⟩ := atv j u hu
            exact (v2 j d u hd hu).1
          · rw [List.getElem?_append_right (by omega)] at hu
            have := u3 _ u hu
            have e : (k + 1) * sz' + (j - vs.length) = k * sz' + j := by rw [Nat.add_mul, v1, hcl]; omega
            rw [e] at this
            exact this
        · cases i with
          | zero =>
            simp at p
            subst p
            have hj : j < vs.length := by rw [v1]; exact (List.getElem?_eq_some_iff.1 q).1
            refine ⟨vs[j], ?_, (v2 j d _ q (List.getElem?_eq_getElem hj)).2.2⟩
            rw [Nat.zero_mul, Nat.zero_add, List.getElem?_append_left hj]
            simp
          | succ i =>
            obtain ⟨u, e1, e2⟩ := u4 i j cs d (by simpa using p) q
            refine ⟨u, ?_, e2⟩
            rw [List.getElem?_append_right (by rw [v1, hcl, Nat.add_mul]; omega)]
            rw [← e1]
            congr 1
            rw [v1, hcl, Nat.add_mul]
            omega
     obtain ⟨us, u1, u2, u3, u4⟩ := key (c0 :: r0) 0 hz (fun i j cs d p q => by simpa using hcell i j cs d p q)
     refine ⟨some ad, n, c, us, rfl, hn, ⟨u1, hz, u2, u4⟩, fun h => (by cases h), fun ad' h j u hu => ?_⟩
     cases h
     simpa using u3 j u hu
theorem blk_own {v : Value} {A : Option Addr} {n c : Nat} (hv : v = .slice A n c) : v.ownBlock = blkOf v := by
 subst hv
 cases A <;> rfl
theorem append_run {P : Program} (w : World) (base : Nat) (t ty e : TypeId) (i : TypeInfo) (z : Value) (size bytes : Nat) (ht : P.underlying t = some (.slice e)) (hi : P.info? e = some i) (hz : i.zero = some z)
   (hsize : i.size = size) (hby : i.bytes = bytes) (hzs : z.cells.size = size) (hsz : 0 < size) (v : Value) (n : Nat) (xs : List Value) (hown : w.ownsRow base e size v n xs) (hbase : base ≤ w.heap.size) (hn : n ≤ room) (hb : bytes ≤ wide)
   {Av : Nat → Prop} {ys : List (List D)} {src : Value} (hy : VI w Av (.sl ys) src) (hys : ∀ cs ∈ ys, cs.length = size) (hyl : ys.length ≤ room) :
   ∃ v' w' news, (Builtin.append_ #[t, t] ty #[v, src]).run P w = .ok v' w' ∧ w'.ownsRow base e size v' (n + ys.length) (xs ++ news) ∧ Rows (VI w Av) size ys news ∧ Fr (fun x => blkOf v = some x) w w' ∧ (blkOf v' = blkOf v ∨ blkOf v' = some w.heap.size) := by
 obtain ⟨A, m, c, news, rfl, hml, hrw, hnone, hsome⟩ := hy.flat hys
 have hform : ∃ A n c, v = .slice A n c := by rcases hown.2 with ⟨rfl, _⟩ | ⟨g, cap, cur, rfl, _⟩ <;> exact ⟨_, _, _, rfl⟩
 obtain ⟨A0, n0, c0, hv0⟩ := hform
 have hblk : v.ownBlock = blkOf v := blk_own hv0
 unfold room at hn hyl
 unfold wide at hb
 cases A with
 | none =>
   obtain ⟨rfl, rfl⟩ := hnone rfl
   have : ys = [] := List.eq_nil_of_length_eq_zero hml
   subst this
   have hn0 : news = [] := List.eq_nil_of_length_eq_zero (by rw [hrw.len]; simp)
   subst hn0
   exact ⟨v, w, [], run_append_of_nil' base t ty e i size ht hi v n xs hown 0, by simpa using hown, hrw, Fr.refl _ _, .inl rfl⟩
 | some ad =>
   have hbytes : (n + m) * bytes ≤ 140737488355328 := by
    have := Nat.mul_le_mul (show n + m ≤ 4294967296 by omega) hb
    omega
   obtain ⟨v', w', e1, e2, e3, _, e5⟩ := run_append_own_at (P := P) w base t ty e i z size bytes ht hi hz hsize hby hzs hsz v n xs hown ad m c news
    (by rw [hrw.len, hml]) (hsome ad rfl) hrw.one (by simp only [maxLen]; omega) hbytes hbase
   have hform' : v'.ownBlock = blkOf v' := by
    rcases e2.2 with ⟨rfl, _⟩ | ⟨g, cap, cur, rfl, _⟩ <;> rfl
   refine ⟨v', w', news, e1, by rw [hml]; exact e2, hrw, ⟨e3.os, e3.tape, e3.output, e3.size, fun k hk hne => e3.block k hk (fun e => hne (by rw [← hblk, ← e]))⟩, ?_⟩
   rw [← hform', ← hblk]
   exact e5
theorem append_str_run {P : Program} (w : World) (base : Nat) (t u ty e : TypeId) (i : TypeInfo) (ht : P.underlying t = some (.slice e)) (hu : P.underlying u = some .string) (hi : P.info? e = some i) (hz : i.zero = some (.int .u8 0))
   (hsize : i.size = 1) (hby : i.bytes = 1) (v : Value) (n : Nat) (xs : List Value) (hown : w.ownsRow base e 1 v n xs) (hbase : base ≤ w.heap.size) (hn : n ≤ room) {l : List UInt8} (hl : l.length ≤ room) :
   ∃ v' w', (Builtin.append_ #[t, u] ty #[v, .string ⟨l.toArray⟩]).run P w = .ok v' w' ∧ w'.ownsRow base e 1 v' (n + l.length) (xs ++ l.map fun c => .int .u8 c.toNat) ∧ Fr (fun x => blkOf v = some x) w w' ∧ (blkOf v' = blkOf v ∨ blkOf v' = some w.heap.size) := by
 unfold room at hn hl
 have hss : (⟨l.toArray⟩ : ByteArray).size = l.length := by simp [ByteArray.size]
 have hcells : strCells ⟨l.toArray⟩ = l.map fun c => .int .u8 c.toNat := by simp [strCells]
 have hform : ∃ A n c, v = .slice A n c := by rcases hown.2 with ⟨rfl, _⟩ | ⟨g, cap, cur, rfl, _⟩ <;> exact ⟨_, _, _, rfl⟩
 obtain ⟨A0, n0, c0, hv0⟩ := hform
 have hblk : v.ownBlock = blkOf v := blk_own hv0
 rcases hown.2 with ⟨hv, hn0⟩ | ⟨g, cap, cur, hv, hbg, hg, hnc, hcm, hcs, htake⟩
 · -- a nil slice
   have hown' : w.ownsRow w.heap.size e 1 v n xs := ⟨hown.1, .inl ⟨hv, hn0⟩⟩
   obtain ⟨v', w', e1, e2, e3, _⟩ := run_append_own_string (P := P) w w.heap.size t u ty e i ht hu hi hz hsize hby v n xs hown' ⟨l.toArray⟩ (by simp only [maxLen, hss]; omega) (by rw [hss]; omega) (Nat.le_refl _)
   obtain ⟨v2, w2, f1, f2, f3, _⟩ := run_append_own_string (P := P) w base t u ty e i ht hu hi hz hsize hby v n xs hown ⟨l.toArray⟩ (by simp only [maxLen, hss]; omega) (by rw [hss]; omega) hbase
   rw [e1] at f1
   cases f1
   rw [hss, hcells] at f2
   refine ⟨v', w', e1, f2, ⟨e3.os, e3.tape, e3.output, e3.size, fun k hk hne => e3.block k hk (fun e => hne (by rw [← hblk, ← e]))⟩, ?_⟩
   rcases e2.2 with ⟨h1, _⟩ | ⟨g, cap, cur, h1, hg, hh, _⟩
   · exact .inl (by rw [h1, hv])
   · -- the block is new, and it is the only new one
     have hrun : (blkOf v' = some g) := by rw [h1]; rfl
     by_cases hl0 : l.length = 0
     · rw [hss] at e2
       have hr := e1
       have hl1 : l = [] := List.eq_nil_of_length_eq_zero hl0
       subst hl1
       have hf := run_firstCells_string (P := P) w 1 (⟨([] : List UInt8).toArray⟩ : ByteArray)
       subst hv
       have hrun0 : (Builtin.append_ #[t, u] ty #[.slice none 0 0, .string ⟨([] : List UInt8).toArray⟩]).run P w = .ok (.slice none 0 0) w := by
        have hz0 : (⟨([] : List UInt8).toArray⟩ : ByteArray).size = 0 := rfl
        rw [hz0] at hf
        simp [Builtin.append_, run_underlying ht, run_underlying hu, sizeOf, typeInfo, hi, hsize, Builtin.lenOf, hz0, hf]
       rw [hrun0] at hr
       cases hr
       cases h1
     · subst hv
       have hr := run_append_nil_string (P := P) w t u ty e i (.int .u8 0) ht hu hi hz ⟨l.toArray⟩ (by rw [hss]; omega) (by rw [hss]; omega) (by rw [hby, hss]; omega)
       rw [hr] at e1
       cases e1
       exact .inr rfl
 · obtain ⟨v2, w2, f1, f2, f3, _⟩ := run_append_own_string (P := P) w base t u ty e i ht hu hi hz hsize hby v n xs hown ⟨l.toArray⟩ (by simp only [maxLen, hss]; omega) (by rw [hss]; omega) hbase
   have f1' := f1
   rw [hss, hcells] at f2
   refine ⟨v2, w2, f1, f2, ⟨f3.os, f3.tape, f3.output, f3.size, fun k hk hne => f3.block k hk (fun e => hne (by rw [← hblk, ← e]))⟩, ?_⟩
   have hxl : xs.length = n := by simpa using hown.1
   subst hv
   by_cases hroom : n + l.length ≤ cap
   · have hr := run_append_room_string (P := P) w t u ty e i ht hu hi hsize g n cap cur hg ⟨l.toArray⟩ (by rw [hss]; exact hroom) (by rw [hss]; omega)
     rw [hr] at f1'
     cases f1'
     exact .inl rfl
   · have holds : ∀ j u, xs[j]? = some u → w.cell? ((⟨g, 0, none⟩ : Addr).add j) = some u := hown.cells (g := g) rfl
     have hr := run_append_grow_string (P := P) w t u ty e i (.int .u8 0) ht hu hi hz ⟨g, 0, none⟩ n cap xs (by rw [hsize]; simpa using hxl) holds ⟨l.toArray⟩ (by rw [hss]; omega) (by rw [hss]; omega) (by rw [hby]; exact growslice_fits (by rw [hss]; omega) (by rw [hss]; omega))
     rw [hr] at f1'
     cases f1'
     exact .inr rfl
def gone (ms : List Nat) : Out := ms.map fun m => (m, none)
theorem lk_gone : ∀ (ms : List Nat) (t : Nat), lk (gone ms) t = if t ∈ ms then some none else none
 | [], t => by simp [gone, lk]
 | m :: r, t => by
   have ih := lk_gone r t
   simp only [gone, List.map_cons, lk_cons] at ih ⊢
   by_cases e : m = t
   · simp [e]
   · rw [if_neg e, ih]
     simp [Ne.symm e]
theorem R.swaps (h : R E cx tm S a w ρ) (hn : ρ nx = none) {ms : List Nat} {b' : Blk} (hl : ∀ m ∈ ms, ∃ b, lk S m = some b ∧ live b = true) {v : Value} {w' : World}
   (hf : Fr (fun x => ∃ m b, m ∈ ms ∧ lk S m = some b ∧ live b = true ∧ bk b (ρ m) x) w w') (hv : ∀ x, bk b' (some v) x → (∃ m b, m ∈ ms ∧ lk S m = some b ∧ live b = true ∧ bk b (ρ m) x) ∨ w.heap.size ≤ x)
   (hs : (∀ d u, VI w (AvS cx.G S ρ) d u → VI w' (AvS cx.G (ap ((nx, some b') :: gone ms) S) (withName ρ nx v)) d u) → (∀ t u, ρ t = some u → withName ρ nx v t = some u) → SR E.P w' (AvS cx.G (ap ((nx, some b') :: gone ms) S) (withName ρ nx v)) (withName ρ nx v) nx b') :
   R E cx tm (ap ((nx, some b') :: gone ms) S) a w' (withName ρ nx v) := by
 have hne : ∀ m ∈ ms, m ≠ nx := by
  rintro m hm rfl
  obtain ⟨b, hb, _⟩ := hl m hm
  obtain ⟨um, hum⟩ := h.named hb
  rw [hn] at hum; cases hum
 have ext : ∀ t u, ρ t = some u → withName ρ nx v t = some u := by
  intro t u ht
  have : t ≠ nx := by rintro rfl; rw [hn] at ht; cases ht
  rw [withName_other v this]; exact ht
 have lo : ∀ t c, lk ((nx, some b') :: gone ms) t = some (some c) → t = nx ∧ c = b' := by
  intro t c ht
  rw [lk_cons] at ht
  by_cases e : nx = t
  · rw [if_pos e] at ht; cases ht; exact ⟨e.symm, rfl⟩
  · rw [if_neg e, lk_gone] at ht
    split at ht <;> cases ht
 have here : ∀ m ∈ ms, lk ((nx, some b') :: gone ms) m ≠ none := by
  intro m hm
  rw [lk_cons, if_neg (Ne.symm (hne m hm)), lk_gone, if_pos hm]; simp
 have old : ∀ x, (∃ m b, m ∈ ms ∧ lk S m = some b ∧ live b = true ∧ bk b (ρ m) x) → ∃ m b, lk ((nx, some b') :: gone ms) m ≠ none ∧ lk S m = some b ∧ live b = true ∧ bk b (ρ m) x := fun x ⟨m, b, h1, h2, h3, h4⟩ => ⟨m, b, here m h1, h2, h3, h4⟩
 refine h.turn ⟨hf.weaken old, ext, fun t c ht hv' x hx => ?_, fun t t' c c' x h1 h2 _ _ _ _ => ?_, fun hi t c ht => ?_⟩
 · obtain ⟨rfl, rfl⟩ := lo t c ht
   rw [withName_same] at hx
   rcases hv x hx with h1 | h1
   · exact .inr (old x h1)
   · exact .inl h1
 · rw [(lo t c h1).1, (lo t' c' h2).1]
 · obtain ⟨rfl, rfl⟩ := lo t c ht
   exact hs hi ext
theorem R.swap (h : R E cx tm S a w ρ) (hn : ρ nx = none) {m : Nat} {b b' : Blk} (hl : lk S m = some b) (hb : live b = true) {v : Value} {w' : World}
   (hf : Fr (fun x => bk b (ρ m) x) w w') (hv : ∀ x, bk b' (some v) x → bk b (ρ m) x ∨ w.heap.size ≤ x)
   (hs : (∀ d u, VI w (AvS cx.G S ρ) d u → VI w' (AvS cx.G (ap [(nx, some b'), (m, none)] S) (withName ρ nx v)) d u) → SR E.P w' (AvS cx.G (ap [(nx, some b'), (m, none)] S) (withName ρ nx v)) (withName ρ nx v) nx b') :
   R E cx tm (ap [(nx, some b'), (m, none)] S) a w' (withName ρ nx v) :=
 h.swaps hn (ms := [m]) (fun m' hm => ⟨b, by rw [List.mem_singleton.1 hm]; exact hl, hb⟩) (hf.weaken fun x hx => ⟨m, b, by simp, hl, hb, hx⟩) (fun x hx => (hv x hx).imp (fun hx => ⟨m, b, by simp, hl, hb, hx⟩) id) fun hi _ => hs hi
theorem call_append {x y : Operand} {ts : Array TypeId} (ho : o.op = .call { callee := .builtin .append, args := #[x, y], argTypes := ts }) {v : Value} {w' : World}
   (hrun : (Builtin.append_ ts o.type #[a.eval x, a.eval y]).run E.P w = .ok v w') : (execOp a.eval o).run E.P w = .ok (.value v) w' := by
 simp only [execOp, ho, resolve, invoke, builtin, Sem.run_bind, Sem.run_pure, Result.andThen_ok, List.map_toArray, List.map_cons, List.map_nil, hrun]
theorem VI.of_own {w : World} {Av : Nat → Prop} : ∀ (l : List UInt8), Rows (VI w Av) 1 (bytesOf l) (l.map fun c => .int .u8 c.toNat) := by
 intro l
 refine ⟨by simp [bytesOf], fun cs hcs => ?_, fun u hu => ?_, fun i j cs d hc hd => ?_⟩
 · simp only [bytesOf, List.mem_map] at hcs
   obtain ⟨c, _, rfl⟩ := hcs
   rfl
 · simp only [List.mem_map] at hu
   obtain ⟨c, _, rfl⟩ := hu
   rfl
 · simp only [bytesOf, List.getElem?_map, Option.map_eq_some_iff] at hc
   obtain ⟨c, h1, rfl⟩ := hc
   cases j with
   | zero =>
     simp at hd
     subst hd
     exact ⟨.int .u8 c.toNat, by simp [h1], .k _ _⟩
   | succ j => simp at hd
theorem ok_append (hty : TyOk E) {t t' : TypeId} {x y : Operand} (ho : o.op = .call { callee := .builtin .append, args := #[x, y], argTypes := #[t, t'] })
   {dx dy dy' : D} (hx : ev E.gl tm x = some dx) (hy : ev E.gl tm y = some dy') (hyy : (t' = t ∧ dy = dy') ∨ (∃ l td', dy' = .s l ∧ dy = .sl (bytesOf l) ∧ E.ty t' = some td' ∧ td'.kind = .str))
   (hk : appendK E t S nx dx dy fun d fp S' nx' => K fp (put o.dst d tm) S' nx')
   (hbyte : t' ≠ t → ∀ td e te, E.ty t = some td → td.kind = .slice e → E.ty e = some te → isByte te = true) : Ok1 E o tm S nx K := by
 unfold appendK at hk
 obtain ⟨td, htd, hk⟩ := tyK_inv hk
 split at hk
 · rename_i e hkind
   obtain ⟨te, hte, hk⟩ := tyK_inv hk
   have hu : E.P.underlying t = some (.slice e) := by
    have := hty.kind htd
    rw [hkind] at this
    exact kind_slice this
   obtain ⟨i, z, hi, hs, hby, hz, hpos, hzl, hzc, _⟩ := hty.info hte
   have hzs : z.cells.size = te.size := by have := (zeroChk_cells (w := default) (Av := fun _ => False) (ρ := fun _ => none) hzc).1.len; rw [hzl] at this; simpa using this.symm
   have hce : E.P.cellsOf e = te.size := hty.cells hte
   unfold srcK at hk
   split at hk
   · rename_i ys hys
     obtain ⟨hyl, hwide, hcs, hk⟩ := hk
     have run : ∀ {cx : Cx} {tm' : Tm} {S1 : Store} {a : Act} {w : World} {ρ : Nat → Option Value} (base : Nat) (v : Value) (n : Nat) (us : List Value), R E cx tm' S1 a w ρ → (∀ x ∈ o.op.operands, ev E.gl tm' x = ev E.gl tm x) → (∀ t ∈ nmD dy, ∀ xs, (lk S t).bind imB = some xs → lk S1 t = some (.fr xs)) →
        a.eval x = v → w.ownsRow base e te.size v n us → base ≤ w.heap.size → n ≤ room →
        ∃ v' w' news, (execOp a.eval o).run E.P w = .ok (.value v') w' ∧ w'.ownsRow base e te.size v' (n + ys.length) (us ++ news) ∧ Rows (VI w (AvS cx.G S1 ρ)) te.size ys news ∧ Fr (fun x => blkOf v = some x) w w' ∧ (blkOf v' = blkOf v ∨ blkOf v' = some w.heap.size) := by
      intro cx tm' S1 a w ρ base v n us h he hfr hax hown hbase hn
      have hey := h.eval ((he y (by simp [ho, Op.operands, Call.operands])).trans hy)
      rcases hyy with ⟨htt, hdd⟩ | ⟨l, td', hdl, hdd, htd', hk'⟩
      · subst hdd
        subst htt
        have hvi := immD_VI (S0 := S) h hfr hey hys
        obtain ⟨v', w', news, e1, e2, e3, e4, e5⟩ := append_run (P := E.P) w base t' o.type e i z te.size te.bytes hu hi hz hs hby hzs hpos v n us hown hbase hn hwide hvi hcs hyl
        rw [← hax] at e1
        exact ⟨v', w', news, call_append ho e1, e2, e3, e4, e5⟩
      · subst hdd
        subst hdl
        have hys' : ys = bytesOf l := by simp [immD, immA] at hys; exact hys.symm
        subst hys'
        have hu' : E.P.underlying t' = some .string := by
         have := hty.kind htd'
         rw [hk'] at this
         exact kind_str this
        have htt : t' ≠ t := by rintro rfl; rw [hu] at hu'; cases hu'
        obtain ⟨b2, b3⟩ : te.bytes = 1 ∧ te.zero = .k .u8 0 := by
         have := hbyte htt td e te htd hkind hte
         unfold isByte at this
         split at this
         · rename_i h2
           exact ⟨Nat.eq_of_beq_eq_true this, h2⟩
         · cases this
        have hz' : i.zero = some (.int .u8 0) := by
         rw [hz]
         rw [b3] at hzc
         cases z <;> simp [zeroChk, zeroEq] at hzc
         rw [← hzc.1, ← hzc.2]
        have hsz1 : te.size = 1 := by rw [← hzl, b3]; rfl
        have hll : l.length ≤ room := by simpa [bytesOf] using hyl
        rw [hsz1] at hown hs
        obtain ⟨v', w', e1, e2, e4, e5⟩ := append_str_run (P := E.P) w base t t' o.type e i hu hu' hi hz' hs (by rw [hby, b2]) v n us hown hbase hn hll
        rw [← hax] at e1
        have hyv : a.eval y = .string ⟨l.toArray⟩ := hey.s_inv
        rw [hsz1]
        refine ⟨v', w', _, call_append ho (by rw [hyv]; exact e1), ?_, VI.of_own l, e4, e5⟩
        have hbl : (bytesOf l).length = l.length := by simp [bytesOf]
        rw [hbl]
        exact e2
     cases dx with
     | nil =>
       refine Ok1.frzNew (ns := nmD dy) (fun _ h => h) hk fun cx tm' S' a w ρ he hag h h' hfresh => ?_
       have hvx : a.eval x = .slice none 0 0 := (h.eval ((he x (by simp [ho, Op.operands, Call.operands])).trans hx)).nil_inv
       obtain ⟨v', w', news, e1, e2, e3, e4, e5⟩ := run w.heap.size (.slice none 0 0) 0 [] h' he (frz_fits hag) hvx (World.ownsRow_nil _ _ _ _) (Nat.le_refl _) (Nat.zero_le _)
       rw [← hce] at e3 e2
       obtain ⟨h2, hv⟩ := h'.own hfresh e3 (e4.weaken fun x hx => by simp [blkOf] at hx) (by simpa using e2)
       exact ⟨v', w', v', e1, h2, hv⟩
     | own m0 =>
       simp only at hk
       split at hk
       · rename_i e' xs hl
         split at hk
         · rename_i hbb
           simp only [Bool.and_eq_true] at hbb
           obtain ⟨hb1, hb2⟩ := hbb
           obtain ⟨hxl, hk⟩ := hk
           have hee : e = e' := Nat.eq_of_beq_eq_true hb1
           subst hee
           have hnin : m0 ∉ nmD dy := fun hin => by rw [memB_iff.2 hin] at hb2; cases hb2
           refine Ok1.val (fp := ⟨nx :: m0 :: nmD dy, nx :: m0 :: nmD dy⟩) (out := [(nx, some (.own e (xs ++ ys))), (m0, none)] ++ frzOut S (nmD dy)) (nx' := nx + 1) (d := .own nx) (fun n h => ?_) (fun n h => h) (Nat.le_succ _) (fun n h1 h2 => by simp; omega) (fun n => ?_) hk ?_
           · simp only [List.cons_append, List.nil_append, lk_cons] at h
             by_cases e1 : nx = n
             · simp [e1]
             · by_cases e2 : m0 = n
               · simp [e2]
               · rw [if_neg e1, if_neg e2, lk_frzOut] at h
                 by_cases hin : n ∈ nmD dy
                 · simp [hin]
                 · rw [if_neg hin] at h; exact absurd rfl h
           · have key : ∀ n, lk (del m0 (frz (nmD dy) S)) n = lk (ap ([(m0, none)] ++ frzOut S (nmD dy)) S) n := by
               intro n
               have := lk_ap2 [(m0, none)] (frzOut S (nmD dy)) S (frz_ap (nmD dy) S) n
               rw [← this]
               rfl
             exact lk_cons_ap key n
           · intro cx tm' S' a w ρ he hf h hfr
             have hag : ∀ m ∈ nmD dy, lk S' m = lk S m := fun m hm => hf m (by simp [hm])
             have h' := h.frzs (S0 := S) (nmD dy) hag
             have hl' : lk (ap (frzOut S (nmD dy)) S') m0 = some (.own e xs) := by
              rw [lk_ap, lk_frzOut, if_neg hnin]
              simp only
              rw [hf m0 (by simp)]
              exact hl
             obtain ⟨v, us, hr, hown, hc⟩ := h'.st _ _ hl'
             have hvx : a.eval x = v := by
              have := (h'.eval ((he x (by simp [ho, Op.operands, Call.operands])).trans hx)).own_inv
              rw [nmv_of hr (top_row hown)] at this
              exact (Option.some.inj this).symm
             rw [hce] at hown hc
             obtain ⟨v', w', news, e1, e2, e3, e4, e5⟩ := run 0 v xs.length us h' he (frz_fits hag) hvx hown (Nat.zero_le _) hxl
             have hbind : (ρ m0).bind blkOf = blkOf v := by rw [hr]; rfl
             have hfresh := hfr nx (Nat.le_refl _) (Nat.lt_succ_self _)
             have h2 := h'.swap hfresh (b' := .own e (xs ++ ys)) (v := v') hl' rfl (w' := w') (by show Fr (fun x => (ρ m0).bind blkOf = some x) w w'; rw [hbind]; exact e4) (fun x hx => by
              show (ρ m0).bind blkOf = some x ∨ w.heap.size ≤ x
              replace hx : blkOf v' = some x := hx
              rw [hbind]
              rcases e5 with e5 | e5
              · exact .inl (by rw [← e5]; exact hx)
              · rw [e5] at hx
                simp at hx
                omega) (fun hi' => ⟨v', us ++ news, withName_same _ _, by rw [hce, List.length_append]; exact e2, by rw [hce]; exact (hc.append e3).mono hi'⟩)
             have h1' : v'.oneCell' = true := by rcases e2.2 with ⟨rfl, _⟩ | ⟨g, cap, cur, rfl, _⟩ <;> rfl
             refine ⟨v', w', _, e1, by rw [ap_append]; exact h2, .gr (.atom (.own (nmv_of (withName_same _ _) (top_row e2)) h1')), fun n hne => withName_other v' (by rintro rfl; exact hne ⟨Nat.le_refl _, Nat.lt_succ_self _⟩)⟩
         · exact hk.elim
       · exact hk.elim
     | _ => exact hk.elim
   · exact hk.elim
 · exact hk.elim
end
end Go.Ab
