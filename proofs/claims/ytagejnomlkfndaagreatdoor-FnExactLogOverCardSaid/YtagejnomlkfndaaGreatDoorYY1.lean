/- Texts of this claim, set close: lemmas and contracts. -/
import Derived.Below
import Derived.IntWalk
import Derived.WalkKit
import Derived.WalkLawsBesides
import Derived.Laws.MakeOwn
import Derived.Laws.StructEq
import Derived.Laws.BytesString
import Derived.Great.BuildSlice
import Derived.Maps.AppendAt
import Derived.Lib.AppendStr
set_option linter.unusedVariables false
set_option linter.unusedSimpArgs false
abbrev zAA:=@List.length_map
abbrev zAB:=@List.getElem?_eq_getElem
abbrev zAC:=@Nat.le_of_ble_eq_true
abbrev zAD:=@List.mem_of_getElem?
abbrev zAE:=@Bool.and_eq_true
abbrev zAF:=@Bool.false_eq_true
abbrev zAG:=@Nat.zero_le
abbrev zAH:=@List.map_append
abbrev zAI:=@Nat.eq_of_beq_eq_true
abbrev zAJ:=@Bool.not_eq_true'
abbrev zAK:=@Bool.eq_iff_iff
abbrev zAL:=@Nat.le_refl
abbrev zAM:=@Bool.true_eq_false
abbrev zAN:=@Bool.not_eq_false'
abbrev zAO:=@List.getElem?_map
abbrev zAP:=@List.take_length
abbrev zAQ:=@Bool.not_false
abbrev zAR:=@Bool.not_true
abbrev zAS:=@List.length_set
abbrev zAT:=@List.length_append
abbrev zAU:=@List.getElem?_append_left
abbrev zAV:=@Option.some.injEq
abbrev zAW:=@List.getElem?_append_right
abbrev zAX:=@List.getElem_mem
abbrev zAY:=@List.take_add_one
abbrev zAZ:=@Bool.not_eq_true
abbrev zAa:=@List.length_filter_le
abbrev zAb:=@Option.some.inj
abbrev zAc:=@List.take_of_length_le
abbrev zAd:=@List.length_take
abbrev zAe:=@Bool.or_eq_true
abbrev zAf:=@Nat.mul_le_mul_right
abbrev zAg:=@Bool.false_and
abbrev zAh:=@List.cons_append
abbrev zAi:=@List.getElem?_drop
abbrev zAj:=@List.filter_append
abbrev zAk:=@List.length_eraseIdx
abbrev zAl:=@List.append_assoc
abbrev zAm:=@List.getElem?_set
abbrev zAn:=@List.getElem?_take
abbrev zAo:=@List.set_set
abbrev zAp:=@List.any_eq_true
abbrev zAq:=@Nat.le_trans
abbrev zAr:=@Bool.and_eq_false_iff
abbrev zAs:=@List.all_eq_true
abbrev zAt:=@Bool.false_or
abbrev zAu:=@List.mem_append
abbrev zAv:=@Nat.add_mul
abbrev zAw:=@List.mem_or_eq_of_mem_set
abbrev zAx:=@Bool.true_and
abbrev zAy:=@List.length_drop
abbrev zAz:=@List.mem_of_mem_take
abbrev zBA:=@List.getD_eq_getElem?_getD
abbrev zBB:=@List.nil_append
abbrev zBC:=@List.take_append_drop
abbrev zBD:=@Array.length_toList
abbrev zBE:=@List.map_map
abbrev zBF:=@List.pairwise_iff_getElem
abbrev zBG:=@Option.none_or
abbrev zBH:=@Bool.and_false
abbrev zBI:=@Nat.beq_refl
abbrev zBJ:=@Array.getD_eq_getD_getElem?
abbrev zBK:=@Nat.zero_add
abbrev zBL:=@List.length_replicate
abbrev zBM:=@List.eraseIdx_sublist
abbrev zBN:=@Bool.and_self
abbrev zBO:=@Bool.and_true
abbrev zBP:=@List.ext_getElem?
abbrev zBQ:=@Int.toNat_natCast
abbrev zBR:=@List.find?_append
abbrev zBS:=@List.pairwise_map
abbrev zBT:=@List.mem_of_mem_drop
abbrev zBU:=@List.filter_sublist
abbrev zBV:=@List.filter_eq_self
abbrev zBW:=@List.map_take
abbrev zBX:=@List.map_drop
abbrev zBY:=@Array.ext'
abbrev zBZ:=@Nat.lt_or_gt_of_ne
abbrev zBa:=@List.all_eq_false
abbrev zBb:=@List.drop_drop
abbrev zBc:=@Array.mem_of_getElem?
abbrev zBd:=@Nat.mul_le_mul
abbrev zBe:=@Array.getElem?_toList
abbrev zBf:=@Array.getElem?_append_left
abbrev zBg:=@Array.getElem?_eq_getElem
abbrev zBh:=@Nat.lt_of_lt_of_le
abbrev zBi:=@Nat.zero_mul
abbrev zBj:=@Int.emod_lt_of_pos
namespace Go.Ab
open Go Go.RowKit
inductive D where
 | b (x:Bool)
 | k (kd:IntKind) (n:Int)
 | s (l:List UInt8)
 | v (x:Value)
 | nil
 | sl (xs:List (List D))
 | ep (cs:List D)
 | own (t:Nat)
 | bp (t off:Nat)
 | op (t sz i off:Nat)
 | fn (f:FuncId) (caps:List Nat)
 | agg (ds:List D)
 | tup (ds:List D)
 | vw (t sz a b:Nat)
 | junk
 deriving Inhabited
inductive aE where
 | an (xs:List (List D))
 | nm (t:Nat)
 | lost
 deriving Inhabited
inductive Blk where
 | box (e:TypeId) (cs:List D)
 | own (e:TypeId) (xs:List (List D))
 | row (e:TypeId) (xs:List (List D))
 | fr (xs:List (List D))
 | deep (e e2:TypeId) (zs:List aE)
 deriving Inhabited
abbrev Tm:=List (Nat × D)
abbrev ac:=List (Nat × Blk)
def lk {α:Type}:List (Nat × α)→Nat→Option α
 | [],_=>none
 | (n,a) :: r,m=>match Nat.beq n m with
   | true=>some a
   | false=>lk r m
def del {α:Type} (m:Nat):List (Nat × α)→List (Nat × α)
 | []=>[]
 | (n,a) :: r=>match Nat.beq n m with
   | true=>del m r
   | false=>(n,a) :: del m r
abbrev Out:=List (Nat × Option Blk)
def ap:Out→ac→ac
 | [],S=>S
 | (n,o) :: r,S=>match o with
   | some b=>(n,b) :: del n (ap r S)
   | none=>del n (ap r S)
inductive TK where
 | str|int (k:IntKind)|bool|slice (e:TypeId)|struct (places:List (Nat × Nat))|parr (n:Nat) (e:TypeId)|other
structure TD where
 kind:TK
 size:Nat
 bytes:Nat
 zero:D
 eqv:Option (List Nat):=none
 deep:Bool:=false
 view:Bool:=false
 twin:Bool:=false
def qp:TK→Bool
 | .struct _=>true
 | .parr _ _=>true
 | _=>false
def ofV:Value→Option D
 | .bool x=>some (.b x)
 | .int kd n=>some (.k kd n)
 | .string s=>some (.s s.data.toList)
 | .slice none 0 0=>some .nil
 | .pointer none=>some (.v (.pointer none))
 | _=>none
structure Env where
 P:Program
 ty:TypeId→Option TD
 gl:Nat→Option (List D)
def ev (gl:Nat→Option (List D)) (tm:Tm):Operand→Option D
 | .tmp t=>lk tm t
 | .const v=>ofV v
 | .func f=>some (.fn f [])
 | .global g=>match gl g with
   | some cs=>some (.ep cs)
   | none=>none
def cellsOf:D→List D
 | .agg ds=>ds
 | d=>[d]
def kA (n:Nat):List Nat→Bool
 | []=>false
 | m :: r=>Nat.beq m n || kA n r
def nmA:D→List Nat
 | .own t=>[t]
 | .bp t _=>[t]
 | .op t _ _ _=>[t]
 | .fn _ cs=>cs
 | .vw t _ _ _=>[t]
 | _=>[]
def j9:List D→List Nat
 | []=>[]
 | d :: r=>nmA d++j9 r
def nmD:D→List Nat
 | .agg ds=>j9 ds
 | .tup ds=>j9 ds
 | d=>nmA d
def en:List D→List Nat
 | []=>[]
 | d :: r=>nmD d++en r
def imZ:List aE→Option (List (List D))
 | []=>some []
 | .an xs :: r=>match imZ r with
   | some q=>some ([.sl xs] :: q)
   | none=>none
 | .nm _ :: _=>none
 | .lost :: _=>none
def imB:Blk→Option (List (List D))
 | .own _ xs=>some xs
 | .fr xs=>some xs
 | .deep _ _ zs=>imZ zs
 | _=>none
def cR (S:ac):D→Option D
 | .own t=>match lk S t with
   | some b=>match imB b with
     | some xs=>some (.sl xs)
     | none=>none
   | none=>none
 | .nil=>some (.sl [])
 | .bp _ _=>none
 | .op _ _ _ _=>none
 | .fn f cs=>match cs with
   | []=>some (.fn f [])
   | _=>none
 | .junk=>none
 | .agg _=>none
 | .tup _=>none
 | .vw _ _ _ _=>none
 | d=>some d
def me (S:ac):List D→Option (List D)
 | []=>some []
 | d :: r=>match cR S d with
   | some d'=>match me S r with
     | some r'=>some (d' :: r')
     | none=>none
   | none=>none
def fJ (S:ac):D→Option D
 | .agg ds=>match me S ds with
   | some ds'=>some (.agg ds')
   | none=>none
 | d=>cR S d
def frz1 (t:Nat):ac→ac
 | []=>[]
 | (n,b) :: r=>match Nat.beq n t with
   | true=>match imB b with
     | some xs=>(n,.fr xs) :: frz1 t r
     | none=>(n,b) :: frz1 t r
   | false=>(n,b) :: frz1 t r
def frz:List Nat→ac→ac
 | [],S=>S
 | t :: r,S=>frz r (frz1 t S)
def mr (ns:List Nat) (nx:Nat) (i:Nat):Nat:=
 match ns[i]? with
 | some n=>n
 | none=>nx+(i - ns.length)
def r7 (f:Nat→Nat):D→D
 | .own t=>.own (f t)
 | .bp t o=>.bp (f t) o
 | .op t z i o=>.op (f t) z i o
 | .vw t z a b=>.vw (f t) z a b
 | .fn g cs=>.fn g (cs.map f)
 | d=>d
def u6 (f:Nat→Nat):D→D
 | .agg es=>.agg (es.map (r7 f))
 | d=>r7 f d
def xk (f:Nat→Nat):D→D
 | .tup ds=>.tup (ds.map (u6 f))
 | d=>u6 f d
def Hz (f:Nat→Nat):aE→aE
 | .nm t=>.nm (f t)
 | z=>z
def zm (f:Nat→Nat):Blk→Blk
 | .box e cs=>.box e (cs.map (r7 f))
 | .row e xs=>.row e (xs.map fun cs=>cs.map (r7 f))
 | .deep e e2 zs=>.deep e e2 (zs.map (Hz f))
 | b=>b
def aj:D→Prop
 | .sl _=>False
 | .ep _=>False
 | .agg _=>False
 | .tup _=>False
 | .junk=>False
 | _=>True
def aD:D→Prop
 | .agg ds=>∀ d∈ds,aj d
 | d=>aj d
def ay:D→Prop
 | .tup ds=>∀ d∈ds,aD d
 | d=>aD d
def az (p:D→Prop):aE→Prop
 | .an xs=>∀ cs∈xs,∀ d∈cs,p d
 | _=>True
def aG:Blk→Prop
 | .box _ cs=>∀ d∈cs,aj d
 | .own _ xs=>∀ cs∈xs,∀ d∈cs,aj d
 | .row _ xs=>∀ cs∈xs,∀ d∈cs,aj d
 | .fr _=>False
 | .deep _ _ zs=>∀ z∈zs,az aj z
def aF (S:ac):Prop:=∀ p∈S,aG p.2
def top:Value→Value
 | .tuple us=>us.getD 0 undef
 | v=>v
def Kp (u u':Value):Prop:=u'=u∨∃ (x:Value) (vs vs':List Value),u=.tuple (x :: vs).toArray∧u'=.tuple (x :: vs').toArray
def nmv (ρ:Nat→Option Value) (t:Nat):Option Value:=(ρ t).map top
section rel
variable (w:World) (Av:Nat→Prop)
inductive VI:D→Value→Prop
 | b (x:Bool):VI (.b x) (.bool x)
 | k (kd:IntKind) (n:Int):VI (.k kd n) (.int kd n)
 | s (l:List UInt8):VI (.s l) (.string ⟨l.toArray⟩)
 | v {x:Value} (h:x.oneCell'=true):VI (.v x) x
 | fn (f:FuncId):VI (.fn f []) (.func (.func f) #[] #[])
 | nil:VI .nil (.slice none 0 0)
 | sl0:VI (.sl []) (.slice none 0 0)
 | sl {xs:List (List D)} {ad:Addr} {n c sz:Nat} (U:Nat→Nat→Value) (hn:xs.length=n) (hnc:n≤c) (hc:c≤maxLen) (hb:xs≠[]→ad.block < w.heap.size)
  (hav:xs≠[]→¬ Av ad.block) (hsz:∀ cs∈xs,cs.length=sz) (hcell:∀ (i j:Nat) (cs:List D) (d:D),xs[i]?=some cs→cs[j]?=some d→w.cell? (ad.add (i * sz+j))=some (U i j))
  (h1:∀ (i j:Nat) (cs:List D) (d:D),xs[i]?=some cs→cs[j]?=some d→(U i j).oneCell'=true)
  (hrec:∀ (i j:Nat) (cs:List D) (d:D),xs[i]?=some cs→cs[j]?=some d→VI d (U i j)):VI (.sl xs) (.slice (some ad) n c)
 | ep {cs:List D} {ad:Addr} (U:Nat→Value) (hb:ad.block < w.heap.size) (hav:¬ Av ad.block) (hcell:∀ (j:Nat) (d:D),cs[j]?=some d→w.cell? (ad.add j)=some (U j))
  (h1:∀ (j:Nat) (d:D),cs[j]?=some d→(U j).oneCell'=true)
  (hrec:∀ (j:Nat) (d:D),cs[j]?=some d→VI d (U j)):VI (.ep cs) (.pointer (some ad))
 | agg {ds:List D} {us:List Value} (hl:ds.length=us.length) (h1:∀ u∈us,u.oneCell'=true) (hrec:∀ (i:Nat) (d:D) (u:Value),ds[i]?=some d→us[i]?=some u→VI d u):VI (.agg ds) (.agg us.toArray)
variable (ρ:Nat→Option Value)
inductive VA:D→Value→Prop
 | im {d:D} {u:Value} (h:VI w Av d u):VA d u
 | own {t:Nat} {u:Value} (h:nmv ρ t=some u) (h1:u.oneCell'=true):VA (.own t) u
 | bp {t off b:Nat} (h:ρ t=some (.pointer (some ⟨b,0,none⟩))):VA (.bp t off) (.pointer (some ⟨b,off,none⟩))
 | op {t i off g n c sz:Nat} (h:nmv ρ t=some (.slice (some ⟨g,0,none⟩) n c)):VA (.op t sz i off) (.pointer (some ⟨g,i * sz+off,none⟩))
 | fn {f:FuncId} {cs:List Nat} {us:List Value} (hl:cs.length=us.length) (h:∀ (i n:Nat) (u:Value),cs[i]?=some n→us[i]?=some u→ρ n=some u∧∃ b,u=.pointer (some ⟨b,0,none⟩)):VA (.fn f cs) (.func (.func f) #[] us.toArray)
 | vw {t sz a b n c:Nat} {A:Option Addr} (h:ρ t=some (.slice A n c)) (h1:a≤b) (h2:b≤n) (h3:n≤c) (h4:A=none→c=0):VA (.vw t sz a b) (.slice (if c=a then A else A.map (·.add (a * sz))) (b - a) (c - a))
 | junk {u:Value} (h1:u.oneCell'=true):VA .junk u
inductive VG:D→Value→Prop
 | atom {d:D} {u:Value} (h:VA w Av ρ d u):VG d u
 | agg {ds:List D} {us:List Value} (hl:ds.length=us.length) (h1:∀ u∈us,u.oneCell'=true) (h:∀ (i:Nat) (d:D) (u:Value),ds[i]?=some d→us[i]?=some u→VA w Av ρ d u):VG (.agg ds) (.agg us.toArray)
inductive VR:D→Value→Prop
 | gr {d:D} {u:Value} (h:VG w Av ρ d u):VR d u
 | tup {ds:List D} {us:List Value} (hl:ds.length=us.length) (h:∀ (i:Nat) (d:D) (u:Value),ds[i]?=some d→us[i]?=some u→VG w Av ρ d u):VR (.tup ds) (.tuple us.toArray)
end rel
def be:Value→Option Nat
 | .pointer (some a)=>some a.block
 | .slice (some a) _ _=>some a.block
 | _=>none
def de:Blk→Bool
 | .fr _=>false
 | _=>true
def bk (b:Blk) (o:Option Value) (x:Nat):Prop:=
 match b with
 | .deep _ _ zs=>∃ (u:Value) (vs:List Value),o=some (.tuple (u :: vs).toArray)∧(be u=some x∨∃ (i:Nat) (xs:List (List D)) (v:Value),zs[i]?=some (.an xs)∧vs[i]?=some v∧be v=some x)
 | _=>o.bind be=some x
def eH (S:ac) (ρ:Nat→Option Value) (x:Nat):Prop:=∃ t b,lk S t=some b∧de b=true∧bk b (ρ t) x
def AvS (G:Nat→Prop) (S:ac) (ρ:Nat→Option Value) (x:Nat):Prop:=G x∨eH S ρ x
structure Rows (p:D→Value→Prop) (sz:Nat) (xs:List (List D)) (us:List Value):Prop where
 len:us.length=xs.length * sz
 el:∀ cs∈xs,cs.length=sz
 one:∀ u∈us,u.oneCell'=true
 at_:∀ (i j:Nat) (cs:List D) (d:D),xs[i]?=some cs→cs[j]?=some d→∃ u,us[i * sz+j]?=some u∧p d u
def FU (P:Program) (w:World) (Av:Nat→Prop) (ρ:Nat→Option Value) (e2:TypeId) (z:aE) (u v:Value):Prop:=
 match z with
 | .an xs=>u=v∧∃ us:List Value,w.ownsRow 0 e2 (P.cellsOf e2) v xs.length us∧Rows (VI w Av) (P.cellsOf e2) xs us
 | .nm a=>nmv ρ a=some u
 | .lost=>True
structure je (P:Program) (w:World) (Av:Nat→Prop) (ρ:Nat→Option Value) (t:Nat) (e e2:TypeId) (zs:List aE) (u:Value) (vs us:List Value):Prop where
 name:ρ t=some (.tuple (u :: vs).toArray)
 lv:vs.length=zs.length
 lu:us.length=zs.length
 own:w.ownsRow 0 e 1 u zs.length us
 one:∀ x∈us,x.oneCell'=true
 slot:∀ (i:Nat) (z:aE) (x v:Value),zs[i]?=some z→us[i]?=some x→vs[i]?=some v→FU P w Av ρ e2 z x v
 apart:∀ (i:Nat) (xs:List (List D)) (v:Value) (x:Nat),zs[i]?=some (.an xs)→vs[i]?=some v→be v=some x→be u≠some x
 dis:∀ (i j:Nat) (xs ys:List (List D)) (v v':Value) (x:Nat),zs[i]?=some (.an xs)→zs[j]?=some (.an ys)→vs[i]?=some v→vs[j]?=some v'→be v=some x→be v'=some x→i=j
def SR (P:Program) (w:World) (Av:Nat→Prop) (ρ:Nat→Option Value) (t:Nat):Blk→Prop
 | .box e cs=>∃ (b:Nat) (us:List Value),ρ t=some (.pointer (some ⟨b,0,none⟩))∧w.heap[b]?=some (.cells us.toArray e (0,0))∧cs.length=us.length ∧
  (∀ u∈us,u.oneCell'=true)∧∀ (i:Nat) (d:D) (u:Value),cs[i]?=some d→us[i]?=some u→VA w Av ρ d u
 | .own e xs=>∃ (u:Value) (us:List Value),ρ t=some u∧w.ownsRow 0 e (P.cellsOf e) u xs.length us∧Rows (VI w Av) (P.cellsOf e) xs us
 | .row e xs=>∃ (u:Value) (us:List Value),ρ t=some u∧w.ownsRow 0 e (P.cellsOf e) u xs.length us∧Rows (VA w Av ρ) (P.cellsOf e) xs us
 | .fr xs=>∃ u,nmv ρ t=some u∧VI w Av (.sl xs) u
 | .deep e e2 zs=>∃ (u:Value) (vs us:List Value),je P w Av ρ t e e2 zs u vs us
def Dis (S:ac) (ρ:Nat→Option Value):Prop:=
 ∀ t t' b b' x,lk S t=some b→lk S t'=some b'→de b=true→de b'=true→bk b (ρ t) x→bk b' (ρ t') x→t=t'
structure Fr (F:Nat→Prop) (w w':World):Prop where
 os:w'.os=w.os
 tape:w'.tape=w.tape
 output:w'.output=w.output
 size:w.heap.size≤w'.heap.size
 block:∀ k,k < w.heap.size→¬ F k→w'.heap[k]?=w.heap[k]?
structure Cx where
 N:Nat
 w0:World
 ρ0:Nat→Option Value
 k0:Nat
 F:Nat→Prop
 G:Nat→Prop
structure R (E:Env) (cx:Cx) (tm:Tm) (S:ac) (a:Act) (w:World) (ρ:Nat→Option Value):Prop where
 tm:∀ t d,lk tm t=some d→VR w (AvS cx.G S ρ) ρ d (a.tmps.getD t undef)
 st:∀ t b,lk S t=some b→SR E.P w (AvS cx.G S ρ) ρ t b
 dis:Dis S ρ
 new:∀ x,eH S ρ x→cx.w0.heap.size≤x∨cx.F x
 keep:∀ t u,t < cx.k0→cx.ρ0 t=some u→∃ u',ρ t=some u'∧Kp u u'
 gl:∀ g cs,E.gl g=some cs→VI w (AvS cx.G S ρ) (.ep cs) (.pointer (some ⟨g,0,none⟩))
 fr:Fr cx.F cx.w0 w
 g:∀ x,cx.G x→x < cx.w0.heap.size
 gf:∀ x,cx.G x→¬ cx.F x
 defers:a.defers=[]
 num:a.tmps.size=cx.N
def kN (P : Program) (f : FuncId) : Prop := ∃ fn, P.funcs[f]? = some fn ∧ fn.body.isNone = false ∧ (fn.name == "runtime.NumGoroutine") = false
structure Con (E:Env) (f:FuncId) (k:Nat) (cds:List D) (Sa:ac) (d:D) (S':ac):Prop where
 can:kN E.P f
 run:∀ (w:World) (vs:List Value) (ρ:Nat→Option Value) (G:Nat→Prop),cds.length=vs.length→(∀ x,G x→x < w.heap.size)→(∀ x,G x→¬ eH Sa ρ x) →
  (∀ (i:Nat) (d:D) (u:Value),cds[i]?=some d→vs[i]?=some u→VG w (AvS G Sa ρ) ρ d u)→(∀ t b,lk Sa t=some b→SR E.P w (AvS G Sa ρ) ρ t b)→Dis Sa ρ→(∀ t,k≤t→ρ t=none) →
  (∀ g cs,E.gl g=some cs→VI w (AvS G Sa ρ) (.ep cs) (.pointer (some ⟨g,0,none⟩))) →
  Calls E.P f vs.toArray w fun e w'=>∃ v ρ',e=.returned v∧VR w' (AvS G S' ρ') ρ' d v∧(∀ t b,lk S' t=some b→SR E.P w' (AvS G S' ρ') ρ' t b)∧Dis S' ρ' ∧
   (∀ x,eH S' ρ' x→w.heap.size≤x∨eH Sa ρ x)∧(∀ t u,t < k→ρ t=some u→∃ u',ρ' t=some u'∧Kp u u')∧Fr (eH Sa ρ) w w'
structure Fp where
 all:List Nat
 wr:List Nat
abbrev Kt:=Fp→Tm→ac→Nat→Prop
def sK:D→Bool
 | .tup _=>true
 | _=>false
def evK (gl:Nat→Option (List D)) (tm:Tm) (x:Operand) (K:D→Prop):Prop:=
 match ev gl tm x with
 | some d=>K d
 | none=>False
def FV (gl:Nat→Option (List D)) (tm:Tm):List Operand→(List D→Prop)→Prop
 | [],K=>K []
 | x :: r,K=>match ev gl tm x with
   | some d=>FV gl tm r fun ds=>K (d :: ds)
   | none=>False
structure aH (x:Bool) (K:Bool→Prop):Prop where
 t:x=true→K true
 f:x=false→K false
def put (d:Option Nat) (x:D) (tm:Tm):Tm:=
 match d with
 | some t=>(t,x) :: tm
 | none=>tm
def cO {α:Type}:List α→Nat→List α→List α
 | cs,_,[]=>cs
 | cs,o,d :: r=>cO (cs.set o d) (o+1) r
def eK (gl:Nat→Option (List D)) (tm:Tm) (places:List (Nat × Nat)):List (Nat × Operand)→List D→(List D→Prop)→Prop
 | [],cs,K=>K cs
 | (i,x) :: r,cs,K=>match places[i]? with
   | some (o,z)=>evK gl tm x fun d=>match Nat.beq (cellsOf d).length z && Nat.ble (o+z) cs.length && !sK d with
     | true=>eK gl tm places r (cO cs o (cellsOf d)) K
     | false=>False
   | none=>False
def fh (gl:Nat→Option (List D)) (tm:Tm) (S:ac) (z:Nat):List (Nat × Operand)→List (List D)→(List (List D)→Prop)→Prop
 | [],xs,K=>K xs
 | (i,x) :: r,xs,K=>evK gl tm x fun d=>match fJ S d with
   | some d'=>match Nat.beq (cellsOf d').length z && Nat.blt i xs.length with
     | true=>fh gl tm S z r (xs.set i (cellsOf d')) K
     | false=>False
   | none=>False
def er (gl:Nat→Option (List D)) (tm:Tm):List (Nat × Operand)→List Nat
 | []=>[]
 | (_,x) :: r=>match ev gl tm x with
   | some d=>nmD d++er gl tm r
   | none=>er gl tm r
def iO (td:TD) (cs:List D) (K:D→Prop):Prop:=
 match qp td.kind with
 | true=>match Nat.ble td.size cs.length with
   | true=>K (.agg (cs.take td.size))
   | false=>False
 | false=>match cs with
   | d :: _=>K d
   | []=>False
def sM (op:BinOp) (kd:IntKind) (m n:Int) (K:D→Prop):Prop:=
 match op with
 | .add=>∃ r,kd.wrap (m+n)=r∧K (.k kd r)
 | .sub=>∃ r,kd.wrap (m - n)=r∧K (.k kd r)
 | .mul=>∃ r,kd.wrap (m * n)=r∧K (.k kd r)
 | .quo=>n≠0∧∃ r,kd.wrap (m.tdiv n)=r∧K (.k kd r)
 | .rem=>n≠0∧∃ r,m.tmod n=r∧K (.k kd r)
 | .eql=>K (.b (decide (m=n)))
 | .neq=>K (.b (!decide (m=n)))
 | .lss=>K (.b (decide (m < n)))
 | .leq=>K (.b (decide (m≤n)))
 | .gtr=>K (.b (decide (m > n)))
 | .geq=>K (.b (decide (m ≥ n)))
 | .xor=>∃ r,(Op.intBits .xor kd m n=Sem.pure (.int kd r))∧K (.k kd r)
 | .and=>∃ r,(Op.intBits .and kd m n=Sem.pure (.int kd r))∧K (.k kd r)
 | _=>False
def sN (op:BinOp) (a b:List UInt8) (K:D→Prop):Prop:=
 match op with
 | .add=>a.length+b.length≤9223372036854775807∧K (.s (a++b))
 | .eql=>K (.b (decide (a=b)))
 | .neq=>K (.b (!decide (a=b)))
 | .lss=>K (.b (Op.bytesLess a b))
 | .leq=>K (.b (Op.bytesLess a b || decide (a=b)))
 | .gtr=>K (.b (!(Op.bytesLess a b || decide (a=b))))
 | .geq=>K (.b (!Op.bytesLess a b))
 | _=>False
def isK (a b:IntKind):Bool:=decide (a=b)
def eqA (c:Nat) (d e:D):Option Bool:=
 match c,d,e with
 | 0,.b x,.b y=>some (x == y)
 | 1,.k a m,.k b n=>match isK a b with
   | true=>some (decide (m=n))
   | false=>none
 | 2,.s x,.s y=>some (decide (x=y))
 | _,_,_=>none
def iP:List Nat→List D→List D→Option Bool
 | [],[],[]=>some true
 | c :: q,x :: r,y :: p=>match eqA c x y with
   | some e=>match iP q r p with
     | some e'=>some (e && e')
     | none=>none
   | none=>none
 | _,_,_=>none
def FW (op:BinOp) (dx dy:D) (K:D→Prop):Prop:=
 match dx,dy with
 | .k kd m,.k kd' n=>match isK kd kd' with
   | true=>sM op kd m n K
   | false=>False
 | .s a,.s b=>sN op a b K
 | _,_=>False
def nb (op:BinOp) (x y:Bool) (K:D→Prop):Prop:=
 match op with
 | .eql=>K (.b (x == y))
 | .neq=>K (.b (!(x == y)))
 | _=>False
def BC (op:BinOp) (c:List Nat) (ds es:List D) (K:D→Prop):Prop:=
 match iP c ds es with
 | some x=>match op with
   | .eql=>K (.b x)
   | .neq=>K (.b (!x))
   | _=>False
 | none=>False
section
variable (E:Env)
def tyK (t:TypeId) (K:TD→Prop):Prop:=
 match E.ty t with
 | some td=>K td
 | none=>False
def szK (e:TypeId) (sz:Nat) (K:Prop):Prop:=
 match E.ty e with
 | some te=>match Nat.beq te.size sz with
   | true=>K
   | false=>False
 | none=>False
def jM (S:ac) (d:D) (td:TD) (K:D→Prop):Prop:=
 match d with
 | .bp n off=>match lk S n with
   | some (.box _ cs)=>iO td (cs.drop off) K
   | _=>False
 | .ep cs=>iO td cs K
 | .op n sz i off=>match lk S n with
   | some (.own e xs)=>szK E e sz (∃ cs,xs[i]?=some cs∧iO td (cs.drop off) K)
   | some (.row e xs)=>szK E e sz (∃ cs,xs[i]?=some cs∧iO td (cs.drop off) K)
   | _=>False
 | _=>False
def kB (S:ac) (d:D) (e:TypeId) (z:Nat) (i:Int) (K:D→Prop):Prop:=
 match d with
 | .sl xs=>∃ (j:Nat) (cs:List D),i=(j:Int)∧xs[j]?=some cs∧cs.length=z∧K (.ep cs)
 | .own t=>match lk S t with
   | some (.own e' xs)=>match Nat.beq e e' with
     | true=>∃ (j:Nat),i=(j:Int)∧j < xs.length∧K (.op t z j 0)
     | false=>False
   | some (.row e' xs)=>match Nat.beq e e' with
     | true=>∃ (j:Nat),i=(j:Int)∧j < xs.length∧K (.op t z j 0)
     | false=>False
   | some (.deep e' _ zs)=>match Nat.beq e e' with
     | true=>∃ (j:Nat),i=(j:Int)∧j < zs.length∧K (.op t z j 0)
     | false=>False
   | some (.fr xs)=>∃ (j:Nat) (cs:List D),i=(j:Int)∧xs[j]?=some cs∧cs.length=z∧K (.ep cs)
   | _=>False
 | _=>False
def qr (gl:Nat→Option (List D)) (tm:Tm) (x:Option Operand) (dflt:Nat) (K:Nat→Prop):Prop:=
 match x with
 | none=>K dflt
 | some y=>match ev gl tm y with
   | some (.k _ n)=>∃ j:Nat,n=(j:Int)∧K j
   | _=>False
def Er (gl:Nat→Option (List D)) (tm:Tm) (lo hi:Option Operand) (n:Nat) (K:Nat→Nat→Prop):Prop:=
 qr gl tm lo 0 fun i=>qr gl tm hi n fun j=>i≤j∧j≤n∧K i j
def BD (gl:Nat→Option (List D)) (kd:TK) (S:ac) (d:D) (tm:Tm) (lo hi:Option Operand) (K:D→List Nat→ac→Prop):Prop:=
 match kd with
 | .str=>match d with
   | .s l=>Er gl tm lo hi l.length fun i j=>K (.s ((l.take j).drop i)) [] S
   | _=>False
 | .slice e=>tyK E e fun te=>match d with
   | .sl xs=>(∀ cs∈xs,cs.length=te.size)∧Er gl tm lo hi xs.length fun i j=>K (.sl ((xs.take j).drop i)) [] S
   | .nil=>Er gl tm lo hi 0 fun _ _=>K .nil [] S
   | .own t=>match cR S (.own t) with
     | some (.sl xs)=>(∀ cs∈xs,cs.length=te.size)∧Er gl tm lo hi xs.length fun i j=>K (.sl ((xs.take j).drop i)) [t] (frz1 t S)
     | _=>False
   | _=>False
 | _=>False
def zn (kd:TK) (S:ac) (d:D) (K:Int→Prop):Prop:=
 match kd with
 | .str=>match d with
   | .s l=>K (l.length:Int)
   | _=>False
 | .slice _=>match d with
   | .sl xs=>K (xs.length:Int)
   | .nil=>K 0
   | .vw _ _ a b=>K ((b - a:Nat):Int)
   | .own t=>match lk S t with
     | some (.own _ xs)=>K (xs.length:Int)
     | some (.row _ xs)=>K (xs.length:Int)
     | some (.deep _ _ zs)=>K (zs.length:Int)
     | some (.fr xs)=>K (xs.length:Int)
     | _=>False
   | _=>False
 | _=>False
def g7 (ns:List Nat) (n:Nat):Option Nat:=
 match ns with
 | []=>none
 | m :: r=>match Nat.beq m n with
   | true=>some 0
   | false=>match g7 r n with
     | some i=>some (i+1)
     | none=>none
def oc (ns:List Nat):List Nat→Option (List Nat)
 | []=>some []
 | n :: r=>match g7 ns n with
   | some i=>match oc ns r with
     | some q=>some (i :: q)
     | none=>none
   | none=>none
def od (ns:List Nat) (S:ac):D→Option D
 | .own t=>match g7 ns t with
   | some i=>some (.own i)
   | none=>cR S (.own t)
 | .bp t o=>match g7 ns t with
   | some i=>some (.bp i o)
   | none=>none
 | .fn f cs=>match oc ns cs with
   | some qs=>some (.fn f qs)
   | none=>none
 | d=>cR S d
def ke (ns:List Nat) (S:ac):List D→Option (List D)
 | []=>some []
 | d :: r=>match od ns S d with
   | some d'=>match ke ns S r with
     | some r'=>some (d' :: r')
     | none=>none
   | none=>none
def zo (ns:List Nat) (S:ac):D→Option D
 | .agg ds=>match ke ns S ds with
   | some ds'=>some (.agg ds')
   | none=>none
 | d=>od ns S d
def aDs (ns:List Nat) (S:ac):List D→Option (List D)
 | []=>some []
 | d :: r=>match zo ns S d with
   | some d'=>match aDs ns S r with
     | some r'=>some (d' :: r')
     | none=>none
   | none=>none
def o9 (ns:List Nat) (S:ac):List (List D)→Option (List (List D))
 | []=>some []
 | d :: r=>match ke ns S d with
   | some d'=>match o9 ns S r with
     | some r'=>some (d' :: r')
     | none=>none
   | none=>none
def lE (ns:List Nat) (S:ac):Blk→Option Blk
 | .box e cs=>match ke ns S cs with
   | some cs'=>some (.box e cs')
   | none=>none
 | .own e xs=>some (.own e xs)
 | .row e xs=>match o9 ns S xs with
   | some xs'=>some (.row e xs')
   | none=>none
 | .fr xs=>some (.fr xs)
 | .deep e e2 zs=>match imZ zs with
   | some _=>some (.deep e e2 zs)
   | none=>none
def nz (ns:List Nat) (S:ac):List Nat→Nat→Option ac
 | [],_=>some []
 | n :: r,i=>match lk S n with
   | some b=>match lE ns S b with
     | some b'=>match nz ns S r (i+1) with
       | some q=>some ((i,b') :: q)
       | none=>none
     | none=>none
   | none=>none
def mu:List (List D)→List Nat
 | []=>[]
 | d :: r=>j9 d++mu r
def dL:List aE→List Nat
 | []=>[]
 | .nm t :: r=>t :: dL r
 | _ :: r=>dL r
def cz:Blk→List Nat
 | .box _ cs=>j9 cs
 | .row _ xs=>mu xs
 | .deep _ _ zs=>dL zs
 | _=>[]
def bV (S:ac):List Nat→List Nat
 | []=>[]
 | n :: r=>match lk S n with
   | some b=>cz b++bV S r
   | none=>bV S r
def kf (ns:List Nat):List Nat→List Nat
 | []=>[]
 | n :: r=>match kA n ns with
   | true=>kf ns r
   | false=>n :: kf ns r
def DE (k:Nat):ac→Bool
 | []=>true
 | (i,_) :: r=>Nat.blt i k && DE k r
def ltB (k:Nat):List Nat→Bool
 | []=>true
 | n :: r=>Nat.blt n k && ltB k r
def nmR:D→List Nat
 | .tup ds=>en ds
 | d=>nmD d
def kC (k:Nat):ac→Bool
 | []=>true
 | (_,b) :: r=>ltB k (cz b) && kC k r
def dd:List Nat→Bool
 | []=>true
 | n :: r=>!kA n r && dd r
def bA (nx:Nat):Nat→List Nat
 | 0=>[]
 | c+1=>nx :: bA (nx+1) c
def dr (f:Nat→Nat) (S':ac):List Nat→Nat→Out
 | [],_=>[]
 | n :: r,i=>(n,match lk S' i with|some b=>some (zm f b)|none=>none) :: dr f S' r (i+1)
def oe (ns:List Nat):ac→ac
 | []=>[]
 | (n,b) :: r=>match kA n ns with
   | true=>oe ns r
   | false=>(n,b) :: oe ns r
def BE (f:Nat→Nat) (S' T:ac):List Nat→Nat→ac
 | [],_=>T
 | n :: r,i=>match lk S' i with
   | some b=>(n,zm f b) :: BE f S' T r (i+1)
   | none=>match kA n r with
     | true=>del n (BE f S' T r (i+1))
     | false=>BE f S' T r (i+1)
def apC (f:Nat→Nat) (S':ac) (ns:List Nat) (S:ac):ac:=BE f S' (oe ns S) ns 0
def kD (ns:List Nat) (ds:List D) (S:ac):List Nat:=kf ns (en ds++bV S ns)
structure BF (f:FuncId) (ds:List D) (S:ac) (nx:Nat) (ns:List Nat) (cds:List D) (Sa:ac) (d:D) (S':ac) (c:Nat):Prop where
 nd:dd ns=true
 ar:aDs ns S ds=some cds
 st:nz ns S ns 0=some Sa
 con:Con E f ns.length cds Sa d S'
 keys:DE (ns.length+c) S'=true
 dom:(ltB (ns.length+c) (nmR d) && kC (ns.length+c) S')=true
def FX (S2 S:ac):List Nat→Prop
 | []=>True
 | n :: r=>lk S2 n=lk S n∧FX S2 S r
def HA (ns:List Nat):List Nat→Bool
 | []=>true
 | n :: r=>kA n ns && HA ns r
def zp (f:FuncId) (ds:List D) (S:ac) (nx:Nat) (K:D→Fp→ac→Nat→Prop):Prop:=
 ∃ (ns:List Nat) (cds:List D) (Sa:ac) (d:D) (S':ac) (c:Nat),BF E f ds S nx ns cds Sa d S' c ∧
   ((∃ sm:List Nat,FX (apC (mr ns nx) S' (ns++bA nx c) S) S sm∧(ltB nx sm && HA ns sm)=true∧((ay d∧aF S')∨kD ns ds S=[])∧K (xk (mr ns nx) d) ⟨en ds++bV S ns++ns++bA nx c,kf sm (ns++bA nx c)⟩ (apC (mr ns nx) S' (ns++bA nx c) S) (nx+c)) ∨
    K (xk (mr ns nx) d) ⟨en ds++bV S ns++ns++bA nx c,en ds++bV S ns++ns++bA nx c⟩ (apC (mr ns nx) S' (ns++bA nx c) (frz (kD ns ds S) S)) (nx+c))
def eN:Nat:=2147483648
def wide:Nat:=4096
def FY:D→Bool
 | .nil=>true
 | _=>false
def HB (S:ac) (d:D) (K:List (List D)→Prop):Prop:=
 match fJ S d with
 | some (.sl ys)=>K ys
 | _=>False
def sk (t:TypeId) (S:ac) (nx:Nat) (dx dy:D) (K:D→Fp→ac→Nat→Prop):Prop:=
 tyK E t fun td=>match td.kind with
  | .slice e=>tyK E e fun te=>HB S dy fun ys=>ys.length≤eN∧te.bytes≤wide∧(∀ cs∈ys,cs.length=te.size) ∧
   match dx with
   | .nil=>K (.own nx) ⟨nx :: nmD dy,nx :: nmD dy⟩ ((nx,.own e ys) :: frz (nmD dy) S) (nx+1)
   | .own m=>match lk S m with
     | some (.own e' xs)=>match Nat.beq e e' && !kA m (nmD dy) with
       | true=>xs.length≤eN∧K (.own nx) ⟨nx :: m :: nmD dy,nx :: m :: nmD dy⟩ ((nx,.own e (xs++ys)) :: del m (frz (nmD dy) S)) (nx+1)
       | false=>False
     | _=>False
   | _=>False
  | _=>False
def fL:List D→(List D→Prop)→Prop
 | [],k=>k []
 | d :: r,k=>fL r fun r'=>k (d :: r')
theorem Is:∀ (l:List D) (k:List D→Prop),fL l k=k l
 | [],_=>rfl
 | d :: r,k=>by rw [fL,Is r]
def pb (n:Nat) (b:Blk) (S:ac):ac:=(n,b) :: del n S
def DF (e2:TypeId):Blk→Bool
 | .own e3 _=>Nat.beq e2 e3
 | .fr _=>true
 | _=>false
def sO (t:TypeId) (S:ac) (nx:Nat) (dx dy:D) (K:D→Fp→ac→Nat→Prop):Prop:=
 tyK E t fun td=>match td.kind with
  | .slice e=>tyK E e fun te=>HB S dy fun ys=>ys.length≤eN∧te.bytes≤wide∧(∀ cs∈ys,cs.length=te.size) ∧
   match dx with
   | .own m=>match lk S m with
     | some (.own e' xs)=>match Nat.beq e e' && !kA m (nmD dy) with
       | true=>xs.length≤eN∧K (.own nx) ⟨nx :: m :: nmD dy,nx :: m :: nmD dy⟩ ((nx,.fr (xs++ys)) :: (m,.fr xs) :: del m (frz (nmD dy) S)) (nx+1)
       | false=>False
     | _=>False
   | _=>False
  | _=>False
def BG (S:ac) (da dx:D) (K:Fp→ac→Prop):Prop:=
 match da with
 | .bp n off=>match lk S n with
   | some (.box e cs)=>match Nat.ble (off+(cellsOf dx).length) cs.length with
     | true=>fL (cs.take off++cellsOf dx++cs.drop (off+(cellsOf dx).length)) fun cs'=>K ⟨[n],[n]⟩ (pb n (.box e cs') S)
     | false=>False
   | _=>False
 | .op n sz i off=>match lk S n with
   | some (.own e xs)=>match fJ S dx with
     | some dx'=>kA n (nmD dx)=false∧szK E e sz (∃ cs,xs[i]?=some cs∧off+(cellsOf dx').length≤cs.length ∧
      K ⟨n :: nmD dx,n :: nmD dx⟩ (pb n (.own e (xs.set i (cO cs off (cellsOf dx')))) (frz (nmD dx) S)))
     | none=>False
   | some (.row e xs)=>szK E e sz (∃ cs,xs[i]?=some cs∧off+(cellsOf dx).length≤cs.length ∧
    K ⟨[n],[n]⟩ (pb n (.row e (xs.set i (cO cs off (cellsOf dx)))) S))
   | some (.deep e e2 zs)=>match off,dx with
     | 0,.own a=>match lk S a with
       | some b=>match DF e2 b && Nat.beq sz 1 with
         | true=>i < zs.length∧K ⟨[n,a],[n]⟩ (pb n (.deep e e2 (zs.set i (.nm a))) S)
         | false=>False
       | none=>False
     | _,_=>False
   | _=>False
 | _=>False
def FZ (S:ac) (nx:Nat) (d:D) (K:D→Fp→ac→Nat→Prop):Prop:=
 match d with
 | .op n sz i 0=>match lk S n with
   | some (.deep e e2 zs)=>match Nat.beq sz 1 with
     | true=>∃ z,zs[i]?=some z∧match z with
       | .an xs=>K (.own nx) ⟨[nx,n],[nx,n]⟩ ((nx,.own e2 xs) :: pb n (.deep e e2 (zs.set i (.nm nx))) S) (nx+1)
       | .nm a=>K (.own a) ⟨[n],[]⟩ S nx
       | .lost=>False
     | false=>False
   | _=>False
 | _=>False
def F0 (gl:Nat→Option (List D)) (kd:TK) (S:ac) (d:D) (tm:Tm) (lo hi:Option Operand) (K:D→Prop):Prop:=
 match kd with
 | .slice e=>tyK E e fun te=>match d with
   | .own t=>match lk S t with
     | some (.own _ xs)=>Er gl tm lo hi xs.length fun i j=>K (.vw t te.size i j)
     | _=>False
   | .vw t z 0 b=>match lk S t with
     | some (.own _ xs)=>match Nat.beq z te.size with
       | true=>qr gl tm lo 0 fun i=>qr gl tm hi b fun j=>i≤j∧j≤xs.length∧K (.vw t te.size i j)
       | false=>False
     | _=>False
   | _=>False
 | _=>False
def BH (gl:Nat→Option (List D)) (kd:TK) (S:ac) (d:D) (tm:Tm) (lo hi:Option Operand) (mx:Operand) (K:Prop):Prop:=
 match kd with
 | .slice e=>tyK E e fun _=>match d,lo,hi with
   | .own t,some l,some h=>match lk S t,ev gl tm l,ev gl tm h,ev gl tm mx with
     | some (.own _ xs),some (.k _ a),some (.k _ b),some (.k _ c)=>∃ i j k:Nat,a=(i:Int)∧b=(j:Int)∧c=(k:Int)∧i≤j∧j≤k∧k≤xs.length∧K
     | _,_,_,_=>False
   | _,_,_=>False
 | _=>False
def sP (t:TypeId) (S:ac) (nx:Nat) (dx dy:D) (K:D→Fp→ac→Nat→Prop):Prop:=
 tyK E t fun td=>match td.kind with
  | .slice e=>tyK E e fun te=>match dx,dy with
    | .vw m z 0 i,.vw m' z' j n=>match lk S m with
      | some (.own e' xs)=>match Nat.beq m m' && Nat.beq e e' && Nat.beq z te.size && Nat.beq z' te.size with
        | true=>i≤j∧j≤n∧n≤xs.length∧K (.vw m te.size 0 (i+(n - j))) ⟨[m],[m]⟩ (pb m (.own e (xs.take i++(xs.take n).drop j++xs.drop (i+(n - j)))) S) nx
        | false=>False
      | _=>False
    | _,_=>False
  | _=>False
def xl (t:TypeId) (S:ac) (nx:Nat) (d:D) (K:Fp→ac→Nat→Prop):Prop:=
 tyK E t fun td=>match td.kind with
  | .slice e=>tyK E e fun te=>match d with
    | .vw m z a b=>match lk S m with
      | some (.own e' xs)=>match Nat.beq e e' && Nat.beq z te.size with
        | true=>a≤b∧b≤xs.length∧K ⟨[m],[m]⟩ (pb m (.own e (xs.take a++List.replicate (b - a) (cellsOf te.zero)++xs.drop b)) S) nx
        | false=>False
      | _=>False
    | _=>False
  | _=>False
def IJ (S:ac):D→Bool
 | .op n _ _ _=>match lk S n with
   | some (.deep _ _ _)=>true
   | _=>false
 | _=>false
def sR (t:TypeId) (S:ac) (nx:Nat) (dx dy:D) (K:D→Fp→ac→Nat→Prop):Prop:=
 tyK E t fun td=>match td.kind with
  | .slice e=>tyK E e fun te=>match te.kind,dy with
    | .slice e2,.own r=>match lk S r with
      | some (.deep e' e2' ws)=>match Nat.beq e e' && Nat.beq e2 e2' && Nat.beq te.size 1 with
        | true=>ws.length≤eN∧te.bytes≤wide ∧
          match dx with
          | .nil=>K (.own nx) ⟨[nx,r],[nx,r]⟩ ((nx,.deep e e2 ws) :: del r S) (nx+1)
          | .own m=>match lk S m with
            | some (.deep e'' e2'' zs)=>match Nat.beq e e'' && Nat.beq e2 e2'' && !Nat.beq m r with
              | true=>zs.length≤eN∧K (.own nx) ⟨[nx,m,r],[nx,m,r]⟩ ((nx,.deep e e2 (zs++ws)) :: del m (del r S)) (nx+1)
              | false=>False
            | _=>False
          | _=>False
        | false=>False
      | _=>False
    | _,_=>False
  | _=>False
def DG (t:TypeId) (gl:Nat→Option (List D)) (tm:Tm) (S:ac) (nx:Nat) (n:Nat) (parts:List (Nat × Operand)) (K:D→Fp→ac→Nat→Prop):Prop:=
 tyK E t fun td=>match td.kind with
  | .slice e=>tyK E e fun te=>match te.kind,parts with
    | .slice e2,[(0,x)]=>evK gl tm x fun d=>match d with
      | .own a=>match lk S a with
        | some (.own e3 xs)=>match Nat.beq e2 e3 && Nat.beq te.size 1 && Nat.beq n 1 with
          | true=>K (.own nx) ⟨[nx,a],[nx,a]⟩ ((nx,.deep e e2 [.an xs]) :: del a S) (nx+1)
          | false=>False
        | _=>False
      | _=>False
    | .slice e2,[]=>match Nat.beq te.size 1 && Nat.beq n 0 with
      | true=>K (.own nx) ⟨[nx],[nx]⟩ ((nx,.deep e e2 []) :: S) (nx+1)
      | false=>False
    | _,_=>False
  | _=>False
def F1 (t:TypeId) (S:ac) (nx:Nat) (m:Int) (K:D→Fp→ac→Nat→Prop):Prop:=
 tyK E t fun td=>match td.kind with
  | .slice e=>tyK E e fun te=>match te.kind with
    | .slice e2=>match Nat.beq te.size 1 && FY te.zero with
      | true=>∃ n:Nat,m=(n:Int)∧n≤eN∧te.bytes≤wide∧K (.own nx) (⟨[nx],[nx]⟩) ((nx,.deep e e2 (List.replicate n (.an []))) :: S) (nx+1)
      | false=>False
    | _=>False
  | _=>False
def og (places:List (Nat × Nat)) (i:Nat) (d:D) (K:D→Prop):Prop:=
 match places[i]? with
 | some (o,z)=>match Nat.blt 0 z with
   | true=>match d with
     | .bp n off=>K (.bp n (off+o))
     | .op n sz i off=>K (.op n sz i (off+o))
     | .ep cs=>K (.ep (cs.drop o))
     | _=>False
   | false=>False
 | none=>False
def bh (l:List UInt8):List (List D):=l.map fun c=>[D.k .u8 (c.toNat:Int)]
def It (E:Env) (ts td:TD) (d:D) (S:ac) (K:D→Prop):Prop:=
 match ts.kind,td.kind,d with
 | .int _,.int kd,.k _ n=>∃ r,kd.wrap n=r∧K (.k kd r)
 | .str,.str,.s l=>K (.s l)
 | .slice e,.str,d=>tyK E e fun te=>match te.kind,fJ S d with
   | .int .u8,some (.sl xs)=>∃ l:List UInt8,xs=bh l∧l.length≤eN∧K (.s l)
   | _,_=>False
 | _,_,_=>False
def sS (te:TD):Bool:=
 match te.kind,te.zero with
 | .int .u8,.k .u8 0=>Nat.beq te.bytes 1
 | _,_=>false
def zq (b:Builtin) (tys:List TypeId) (ds:List D) (dst:Option Nat) (tm:Tm) (S:ac) (nx:Nat) (K:Kt):Prop:=
 match b,ds with
 | .len,[d]=>match tys with
   | [t]=>tyK E t fun td=>zn td.kind S d fun n=>K ⟨nmD d,[]⟩ (put dst (.k .i64 n) tm) S nx
   | _=>False
 | .append,[x,y]=>match tys with
   | [t,t']=>match Nat.beq t t' with
     | true=>tyK E t fun td=>match td.deep with
       | true=>sR E t S nx x y fun d fp S' nx'=>K fp (put dst d tm) S' nx'
       | false=>match td.view with
        | true=>sP E t S nx x y fun d fp S' nx'=>K fp (put dst d tm) S' nx'
        | false=>match td.twin with
         | true=>sO E t S nx x y fun d fp S' nx'=>K fp (put dst d tm) S' nx'
         | false=>sk E t S nx x y fun d fp S' nx'=>K fp (put dst d tm) S' nx'
     | false=>tyK E t' fun td'=>tyK E t fun td=>match td'.kind,y,td.kind with
       | .str,.s l,.slice e=>tyK E e fun te=>sS te=true∧sk E t S nx x (.sl (bh l)) fun d fp S' nx'=>K fp (put dst d tm) S' nx'
       | _,_,_=>False
   | _=>False
 | .clear,[d]=>match tys with
   | [t]=>xl E t S nx d fun fp S' nx'=>K fp (put dst (.tup []) tm) S' nx'
   | _=>False
 | .min,[.k .i64 m,.k .i64 n]=>K ⟨[],[]⟩ (put dst (.k .i64 (min m n)) tm) S nx
 | .max,[.k .i64 m,.k .i64 n]=>K ⟨[],[]⟩ (put dst (.k .i64 (max m n)) tm) S nx
 | _,_=>False
def fp0:Fp:=⟨[],[]⟩
def fpN (nx:Nat):Fp:=⟨[nx],[nx]⟩
def fpR (d:D):Fp:=⟨nmD d,[]⟩
def jj (o:Oper) (tm:Tm) (S:ac) (nx:Nat) (K:Kt):Prop:=
 match o.op with
 | .move x=>evK E.gl tm x fun d=>K fp0 (put o.dst d tm) S nx
 | .assign x=>evK E.gl tm x fun d=>match d with
   | .nil=>match E.ty o.type with
     | some td=>match td.kind with
       | .slice e=>match td.deep with
         | true=>K fp0 (put o.dst .nil tm) S nx
         | false=>K (fpN nx) (put o.dst (.own nx) tm) ((nx,.own e []) :: S) (nx+1)
       | _=>K fp0 (put o.dst .nil tm) S nx
     | none=>K fp0 (put o.dst .nil tm) S nx
   | d=>K fp0 (put o.dst d tm) S nx
 | .pick c a b=>evK E.gl tm c fun d=>match d with
   | .b x=>aH x fun y=>match y with
     | true=>evK E.gl tm a fun d=>K fp0 (put o.dst d tm) S nx
     | false=>evK E.gl tm b fun d=>K fp0 (put o.dst d tm) S nx
   | _=>False
 | .alloc e=>tyK E e fun td=>K (fpN nx) (put o.dst (.bp nx 0) tm) ((nx,.box e (cellsOf td.zero)) :: S) (nx+1)
 | .box e x=>evK E.gl tm x fun d=>match sK d with
   | true=>False
   | false=>K (fpN nx) (put o.dst (.bp nx 0) tm) ((nx,.box e (cellsOf d)) :: S) (nx+1)
 | .build t parts=>tyK E t fun td=>match td.kind with
   | .struct places=>eK E.gl tm places parts.toList (cellsOf td.zero) fun cs=>K fp0 (put o.dst (.agg cs) tm) S nx
   | _=>False
 | .buildSlice t n parts=>tyK E t fun td=>match td.deep with
  | true=>DG E t E.gl tm S nx n parts.toList fun d fp S' nx'=>K fp (put o.dst d tm) S' nx'
  | false=>match td.kind with
   | .slice e=>tyK E e fun te=>fh E.gl tm S te.size parts.toList (List.replicate n (cellsOf te.zero)) fun xs=>n≤65536∧te.size≤256 ∧
    K ⟨nx :: er E.gl tm parts.toList,nx :: er E.gl tm parts.toList⟩ (put o.dst (.own nx) tm) ((nx,.own e xs) :: frz (er E.gl tm parts.toList) S) (nx+1)
   | _=>False
 | .load t a=>evK E.gl tm a fun d=>tyK E t fun td=>match IJ S d with
   | true=>match qp td.kind with
     | false=>FZ S nx d fun d' fp S' nx'=>K fp (put o.dst d' tm) S' nx'
     | true=>False
   | false=>jM E S d td fun d'=>K (fpR d) (put o.dst d' tm) S nx
 | .store t a x=>evK E.gl tm a fun da=>evK E.gl tm x fun dx=>tyK E t fun td=>match Nat.beq td.size (cellsOf dx).length && !sK dx with
   | true=>BG E S da dx fun fp S'=>K fp (put o.dst (.tup []) tm) S' nx
   | false=>False
 | .fieldAddr t x f=>evK E.gl tm x fun d=>tyK E t fun td=>match td.kind with
   | .struct places=>og places f d fun d'=>K fp0 (put o.dst d' tm) S nx
   | _=>False
 | .indexAddr t x i=>evK E.gl tm x fun d=>evK E.gl tm i fun di=>tyK E t fun td=>match td.kind,di with
   | .slice e,.k _ n=>tyK E e fun te=>kB S d e te.size n fun d'=>K (fpR d) (put o.dst d' tm) S nx
   | .parr m e,.k _ n=>tyK E e fun te=>match d,Nat.beq te.size 1 with
     | .ep cs,true=>∃ (j:Nat) (c:D),n=(j:Int)∧j < m∧cs[j]?=some c∧K fp0 (put o.dst (.ep [c]) tm) S nx
     | _,_=>False
   | _,_=>False
 | .index t x i=>evK E.gl tm x fun d=>evK E.gl tm i fun di=>tyK E t fun td=>match td.kind,d,di with
   | .str,.s l,.k _ n=>∃ (j:Nat) (c:UInt8),n=(j:Int)∧l[j]?=some c∧K fp0 (put o.dst (.k .u8 (c.toNat:Int)) tm) S nx
   | _,_,_=>False
 | .binOp op t x y _=>evK E.gl tm x fun dx=>evK E.gl tm y fun dy=>match dx,dy with
   | .b p,.b q=>tyK E t fun td=>match td.kind with
     | .bool=>nb op p q fun d=>K fp0 (put o.dst d tm) S nx
     | _=>False
   | .agg ds,.agg es=>tyK E t fun td=>match td.eqv with
     | some c=>BC op c ds es fun d=>K fp0 (put o.dst d tm) S nx
     | none=>False
   | dx,dy=>FW op dx dy fun d=>K fp0 (put o.dst d tm) S nx
 | .unOp op _ x=>evK E.gl tm x fun d=>match op,d with
   | .not,.b x=>K fp0 (put o.dst (.b (!x)) tm) S nx
   | .neg,.k kd n=>∃ r,kd.wrap (0 - n)=r∧K fp0 (put o.dst (.k kd r) tm) S nx
   | _,_=>False
 | .convert s t x=>evK E.gl tm x fun d=>tyK E s fun ts=>tyK E t fun td=>It E ts td d S fun d'=>K ⟨nmD d,[]⟩ (put o.dst d' tm) S nx
 | .slice t x lo hi none=>evK E.gl tm x fun d=>tyK E t fun td=>match td.view with
   | true=>F0 E E.gl td.kind S d tm lo hi fun d'=>K ⟨nmD d,[]⟩ (put o.dst d' tm) S nx
   | false=>BD E E.gl td.kind S d tm lo hi fun d' wr S'=>K ⟨nmD d,wr⟩ (put o.dst d' tm) S' nx
 | .slice t x lo hi (some mx)=>evK E.gl tm x fun d=>tyK E t fun td=>match td.view with
   | true=>BH E E.gl td.kind S d tm lo hi mx (K ⟨nmD d,[]⟩ (put o.dst .junk tm) S nx)
   | false=>False
 | .makeSlice t l c=>evK E.gl tm l fun dl=>evK E.gl tm c fun dc=>tyK E t fun td=>match td.deep with
  | true=>match dl,dc with
   | .k _ m,.k _ m'=>m=m'∧F1 E t S nx m fun d fp S' nx'=>K fp (put o.dst d tm) S' nx'
   | _,_=>False
  | false=>match td.kind,dl,dc with
   | .slice e,.k _ m,.k _ m'=>tyK E e fun te=>∃ n:Nat,m=(n:Int)∧m'=(n:Int)∧n≤eN∧te.bytes≤wide ∧
    K (fpN nx) (put o.dst (.own nx) tm) ((nx,.own e (List.replicate n (cellsOf te.zero))) :: S) (nx+1)
   | _,_,_=>False
 | .extract x i=>evK E.gl tm x fun d=>match d with
   | .tup ds=>match ds[i]? with
     | some d'=>K fp0 (put o.dst d' tm) S nx
     | none=>False
   | _=>False
 | .nilCheck x=>evK E.gl tm x fun d=>match d with
   | .bp n off=>K fp0 (put o.dst (.bp n off) tm) S nx
   | .op n z i off=>K fp0 (put o.dst (.op n z i off) tm) S nx
   | .ep cs=>K fp0 (put o.dst (.ep cs) tm) S nx
   | _=>False
 | .makeFunc (.func f) first caps=>FV E.gl tm caps.toList fun ds=>match first.toList,boxes ds with
   | [],some cs=>K fp0 (put o.dst (.fn f cs) tm) S nx
   | _,_=>False
 | .call c=>FV E.gl tm c.args.toList fun ds=>match c.callee with
   | .builtin b=>zq E b c.argTypes.toList ds o.dst tm S nx K
   | .value (.func f)=>zp E f ds S nx fun d fp S' nx'=>K fp (put o.dst d tm) S' nx'
   | .value (.tmp t)=>match lk tm t with
     | some (.fn f cs)=>zp E f (ds++cs.map fun n=>.bp n 0) S nx fun d fp S' nx'=>K fp (put o.dst d tm) S' nx'
     | _=>False
   | _=>False
 | _=>False
where
 boxes:List D→Option (List Nat)
  | []=>some []
  | .bp n 0 :: r=>match boxes r with
    | some q=>some (n :: q)
    | none=>none
  | _=>none
def gj (ops:Array Oper):List Oper→Tm→ac→Nat→List Fp→(List Fp→Tm→ac→Nat→Prop)→Prop
 | [],tm,S,nx,fs,K=>K fs tm S nx
 | o :: r,tm,S,nx,fs,K=>match o.guard with
   | none=>jj E o tm S nx fun fp tm S nx=>gj ops r tm S nx (fp :: fs) K
   | some (j,want)=>match (ops[j]?).bind (·.dst) with
     | none=>False
     | some t=>match lk tm t with
       | some (.b x)=>aH x fun y=>match want,y with
         | true,true=>jj E o ((t,.b true) :: tm) S nx fun fp tm S nx=>gj ops r tm S nx (fp :: fs) K
         | false,false=>jj E o ((t,.b false) :: tm) S nx fun fp tm S nx=>gj ops r tm S nx (fp :: fs) K
         | _,y=>gj ops r (put o.dst (.tup []) ((t,.b y) :: tm)) S nx (fp0 :: fs) K
       | some (.tup [])=>gj ops r (put o.dst (.tup []) tm) S nx (fp0 :: fs) K
       | _=>False
def g8 (bs:List Nat):List Edge→Nat
 | []=>0
 | e :: r=>match Region.binds .any e with
   | true=>Nat.lor (Nat.lor (Nat.shiftLeft 1 e.on) (bs.getD e.on 0)) (g8 bs r)
   | false=>g8 bs r
def fi:List Oper→List Nat→List Nat
 | [],bs=>bs
 | o :: r,bs=>fi r (bs++[g8 bs o.after.toList])
def meets:List Nat→List Nat→Bool
 | [],_=>false
 | n :: r,q=>kA n q || meets r q
def fx (ops:Array Oper) (o:Oper):List Nat:=
 (match o.dst with|some t=>[t]|none=>[])++(match o.guard with|some (j,_)=>(match (ops[j]?).bind (·.dst) with|some t=>[t]|none=>[])|none=>[]) ++
  o.op.operands.toList.filterMap fun|.tmp t=>some t|_=>none
def gh (m i:Nat):Bool:=Nat.beq (Nat.mod (Nat.shiftRight m i) 2) 1
def pc (fp:Fp) (ms:List Nat) (dst:Option Nat) (m:Nat):List (Fp × List Nat × Option Nat)→Nat→Bool
 | [],_=>true
 | (fq,mq,dq) :: r,i=>(gh m i || !(meets fp.wr fq.all || meets fq.wr fp.all || (match dst with|some t=>kA t mq|none=>false) || (match dq with|some t=>kA t ms|none=>false))) && pc fp ms dst m r (i+1)
def pd (ops:Array Oper) (bs:List Nat):List Oper→List Fp→List (Fp × List Nat × Option Nat)→Nat→Bool
 | [],_,_,_=>true
 | _ :: _,[],_,_=>false
 | o :: r,fp :: fs,acc,i=>pc fp (fx ops o) o.dst (bs.getD i 0) acc 0 && pd ops bs r fs (acc++[(fp,fx ops o,o.dst)]) (i+1)
def xm:List Oper→Nat→Bool
 | [],_=>true
 | o :: r,i=>(o.after.toList.all fun e=>!Region.binds .any e || Nat.blt e.on i) && xm r (i+1)
def Iu:List Oper→Bool
 | []=>true
 | o :: r=>(match o.op with|.select ..=>false|_=>true) && Iu r
def mf (ops:Array Oper) (fs:List Fp):Bool:=xm ops.toList 0 && Iu ops.toList && pd ops (fi ops.toList []) ops.toList fs [] 0
inductive Ex where
 | normal
 | exit (id:Nat)
 | ret
 deriving Inhabited
def kE (ns:List Nat):D→Option D
 | .own t=>match g7 ns t with
   | some i=>some (.own i)
   | none=>none
 | .bp t o=>match g7 ns t with
   | some i=>some (.bp i o)
   | none=>none
 | .op _ _ _ _=>none
 | .fn f cs=>match oc ns cs with
   | some qs=>some (.fn f qs)
   | none=>none
 | .junk=>none
 | .vw _ _ _ _=>none
 | d=>some d
def nF (ns:List Nat):List D→List D
 | []=>[]
 | d :: r=>match kE ns d with
   | some d'=>d' :: nF ns r
   | none=>.junk :: nF ns r
def pe (ns:List Nat):D→Option D
 | .agg ds=>some (.agg (nF ns ds))
 | .tup _=>none
 | d=>kE ns d
def xn (ns:List Nat):aE→aE
 | .nm t=>match g7 ns t with
   | some i=>.nm i
   | none=>.lost
 | z=>z
def BI (ns:List Nat):Blk→Blk
 | .box e cs=>.box e (nF ns cs)
 | .row e xs=>.row e (xs.map (nF ns))
 | .deep e e2 zs=>.deep e e2 (zs.map (xn ns))
 | b=>b
def kg (ns:List Nat) (tm:Tm):List Nat→Tm
 | []=>[]
 | t :: r=>match lk tm t with
   | some d=>match pe ns d with
     | some d'=>(t,d') :: kg ns tm r
     | none=>kg ns tm r
   | none=>kg ns tm r
def iQ (ns:List Nat) (S:ac):List Nat→Nat→ac
 | [],_=>[]
 | n :: r,i=>match lk S n with
   | some b=>(i,BI ns b) :: iQ ns S r (i+1)
   | none=>iQ ns S r (i+1)
def lF (i:Nat):Nat→List Nat→Bool
 | 0,_=>true
 | k+1,n :: r=>Nat.beq n i && lF (i+1) k r
 | _+1,[]=>false
inductive Mv where
 | ice (n:Nat)
 | thaw (t e:Nat)
 | thawB (n i e:Nat)
 | thawT (t e e2:Nat)
 | iceZ (n:Nat)
 | thawD (n i e e2:Nat)
 | close (n:Nat)
 | shut (n:Nat)
 | trim (t:Nat)
 | anew (n:Nat)
 | openA (n i:Nat)
def xo (n:Nat) (xs:List (List D)):D→D
 | .own t=>match Nat.beq t n with
   | true=>.sl xs
   | false=>.own t
 | d=>d
def BJ (n:Nat) (xs:List (List D)):D→D
 | .agg ds=>.agg (ds.map (xo n xs))
 | d=>xo n xs d
def sT (n:Nat) (xs:List (List D)):Blk→Blk
 | .box e cs=>.box e (cs.map (xo n xs))
 | .row e ys=>.row e (ys.map fun cs=>cs.map (xo n xs))
 | b=>b
def vQ:D→Bool
 | .nil=>true
 | _=>false
def mvA (n m:Nat):D→D
 | .own t=>match Nat.beq t n with
   | true=>.own m
   | false=>.own t
 | .op t z i o=>match Nat.beq t n with
   | true=>.junk
   | false=>.op t z i o
 | d=>d
def mvD (n m:Nat):D→D
 | .agg ds=>.agg (ds.map (mvA n m))
 | .tup ds=>.tup ds
 | d=>mvA n m d
def mvB (n m:Nat):Blk→Blk
 | .box e cs=>.box e (cs.map (mvA n m))
 | .row e ys=>.row e (ys.map fun cs=>cs.map (mvA n m))
 | b=>b
def gk (S:ac) (e2:TypeId):List aE→Option (List aE × List Nat)
 | []=>some ([],[])
 | .an xs :: r=>match gk S e2 r with
   | some (zs,ns)=>some (.an xs :: zs,ns)
   | none=>none
 | .nm a :: r=>match lk S a with
   | some (.own e3 xs)=>match Nat.beq e2 e3 with
     | true=>match gk S e2 r with
       | some (zs,ns)=>some (.an xs :: zs,a :: ns)
       | none=>none
     | false=>none
   | _=>none
 | .lost :: _=>none
def frZ (S:ac):List aE→Option (List (List D))
 | []=>some []
 | .an xs :: r=>match frZ S r with
   | some q=>some ([.sl xs] :: q)
   | none=>none
 | .nm a :: r=>match lk S a with
   | some (.fr xs)=>match frZ S r with
     | some q=>some ([.sl xs] :: q)
     | none=>none
   | _=>none
 | .lost :: _=>none
def u7:List Nat→ac→ac
 | [],S=>S
 | n :: r,S=>del n (u7 r S)
def mv (m:Mv) (tm:Tm) (S:ac) (nx:Nat):Option (Tm × ac × Nat):=
 match m with
 | .ice n=>match lk S n with
   | some b=>match imB b with
     | some xs=>some (tm.map fun (t,d)=>(t,BJ n xs d),(del n S).map fun (t,b)=>(t,sT n xs b),nx)
     | none=>none
   | none=>none
 | .thaw t e=>match lk tm t with
   | some d=>match vQ d with
     | true=>some ((t,.own nx) :: tm,(nx,.own e []) :: S,nx+1)
     | false=>none
   | _=>none
 | .iceZ n=>match lk S n with
   | some (.deep _ _ zs)=>match frZ S zs with
     | some xs=>some (tm.map fun (t,d)=>(t,BJ n xs d),(del n S).map fun (t,b)=>(t,sT n xs b),nx)
     | none=>none
   | _=>none
 | .thawT t e e2=>match lk tm t with
   | some d=>match vQ d with
     | true=>some ((t,.own nx) :: tm,(nx,.deep e e2 []) :: S,nx+1)
     | false=>none
   | _=>none
 | .thawB n i e=>match lk S n with
   | some (.box e' cs)=>match cs[i]? with
     | some d=>match vQ d with
       | true=>some (tm,(nx,.own e []) :: pb n (.box e' (cs.set i (.own nx))) S,nx+1)
       | false=>none
     | none=>none
   | _=>none
 | .thawD n i e e2=>match lk S n with
   | some (.box e' cs)=>match cs[i]? with
     | some d=>match vQ d with
       | true=>some (tm,(nx,.deep e e2 []) :: pb n (.box e' (cs.set i (.own nx))) S,nx+1)
       | false=>none
     | none=>none
   | _=>none
 | .shut n=>match lk S n with
   | some (.deep e e2 zs)=>match gk S e2 zs with
     | some (ws,ns)=>match dd (n :: ns) with
       | true=>some (tm,(n,.deep e e2 ws) :: del n (u7 ns S),nx)
       | false=>none
     | none=>none
   | _=>none
 | .close n=>match lk S n with
   | some (.deep e e2 zs)=>match gk S e2 zs with
     | some (ws,ns)=>match dd (n :: ns) with
       | true=>some (tm.map fun (t,d)=>(t,mvD n nx d),((nx,.deep e e2 ws) :: del n (u7 ns S)).map fun (t,b)=>(t,mvB n nx b),nx+1)
       | false=>none
     | none=>none
   | _=>none
 | .trim t=>match lk tm t with
   | some (.vw n _ 0 b)=>match lk S n with
     | some (.own e xs)=>some ((t,.own nx) :: tm,(nx,.own e (xs.take b)) :: del n S,nx+1)
     | _=>none
   | _=>none
 | .anew n=>match lk S n with
   | some (.own e xs)=>some (tm.map fun (t,d)=>(t,mvD n nx d),((nx,.own e xs) :: del n S).map fun (t,b)=>(t,mvB n nx b),nx+1)
   | _=>none
 | .openA n i=>match lk S n with
   | some (.deep e e2 zs)=>match zs[i]? with
     | some (.an xs)=>some (tm,(nx,.own e2 xs) :: pb n (.deep e e2 (zs.set i (.nm nx))) S,nx+1)
     | _=>none
   | _=>none
def mvs:List Mv→Tm→ac→Nat→Option (Tm × ac × Nat)
 | [],tm,S,nx=>some (tm,S,nx)
 | m :: r,tm,S,nx=>match mv m tm S nx with
   | some (tm,S,nx)=>mvs r tm S nx
   | none=>none
def g9 (k0:Nat) (tm:Tm) (S:ac) (nx:Nat) (J:Tm→ac→Nat→Prop):Prop:=
 ∃ (ms:List Mv) (ts ns:List Nat),match mvs ms tm S nx with
   | some (tm1,S1,_)=>dd ns=true∧lF 0 k0 ns=true∧J (kg ns tm1 ts) (iQ ns S1 ns 0) ns.length
   | none=>False
def awp (k0:Nat):Code→Tm→ac→Nat→(Ex→Tm→ac→Nat→Prop)→Prop
 | .skip,tm,S,nx,Q=>Q .normal tm S nx
 | .region _ ops draw,tm,S,nx,Q=>match draw with
   | false=>gj E ops ops.toList tm S nx [] fun _ tm S nx=>Q .normal tm S nx
   | true=>gj E ops ops.toList tm S nx [] fun fs tm S nx=>mf ops fs.reverse=true∧Q .normal tm S nx
 | .seq a b,tm,S,nx,Q=>awp k0 a tm S nx fun e tm S nx=>match e with
   | .normal=>awp k0 b tm S nx Q
   | e=>Q e tm S nx
 | .cond c a b,tm,S,nx,Q=>match c with
   | .tmp t=>match lk tm t with
     | some (.b x)=>aH x fun y=>match y with
       | true=>awp k0 a ((t,.b true) :: tm) S nx Q
       | false=>awp k0 b ((t,.b false) :: tm) S nx Q
     | _=>False
   | .const (.bool true)=>awp k0 a tm S nx Q
   | .const (.bool false)=>awp k0 b tm S nx Q
   | _=>False
 | .block id b,tm,S,nx,Q=>awp k0 b tm S nx fun e tm S nx=>match e with
   | .exit i=>match Nat.beq i id with
     | true=>Q .normal tm S nx
     | false=>Q (.exit i) tm S nx
   | e=>Q e tm S nx
 | .loop b,tm,S,nx,Q=>∃ (I:Nat→Tm→ac→Nat→Prop),(∃ m,g9 k0 tm S nx (I m)) ∧
  ∀ m tm S nx,I m tm S nx→awp k0 b tm S nx fun e tm S nx'=>match e with
    | .normal=>∃ m',m' < m∧g9 k0 tm S nx' (I m')
    | e=>Q e tm S nx'
 | .exit id,tm,S,nx,Q=>Q (.exit id) tm S nx
 | .ret,tm,S,nx,Q=>Q .ret tm S nx
 | _,_,_,_,_=>False
def nA (tm:Tm) (S:ac):List ResultVar→(List D→Prop)→Prop
 | [],K=>K []
 | .tmp t :: r,K=>match lk tm t with
   | some d=>nA tm S r fun ds=>K (d :: ds)
   | none=>False
 | .cell a t :: r,K=>match lk tm a with
   | some d=>tyK E t fun td=>jM E S d td fun d'=>nA tm S r fun ds=>K (d' :: ds)
   | none=>False
def lG:List D→D
 | [d]=>d
 | ds=>.tup ds
def vR (ns:List Nat):List D→Option (List D)
 | []=>some []
 | d :: r=>match pe ns d with
   | some d'=>match vR ns r with
     | some r'=>some (d' :: r')
     | none=>none
   | none=>none
def sU (ns:List Nat):D→Option D
 | .tup ds=>match vR ns ds with
   | some ds'=>some (.tup ds')
   | none=>none
 | d=>pe ns d
def qt (k0:Nat) (rv:List ResultVar) (d:D) (S':ac) (tm:Tm) (S:ac) (nx:Nat):Prop:=
 ∃ (ms:List Mv) (ns:List Nat),match mvs ms tm S nx with
   | some (tm1,S1,_)=>nA E tm1 S1 rv fun ds=>dd ns=true∧lF 0 k0 ns=true∧sU ns (lG ds)=some d∧iQ ns S1 ns 0=S'
   | none=>False
def HC (k0:Nat) (rv:List ResultVar) (d:D) (S':ac):Ex→Tm→ac→Nat→Prop
 | .exit _,_,_,_=>False
 | .normal,tm,S,nx=>qt E k0 rv d S' tm S nx
 | .ret,tm,S,nx=>qt E k0 rv d S' tm S nx
end
end Go.Ab
namespace Go.Ab
open Go Go.RowKit
variable {P:Program}
theorem sV {n m:Nat} (h:¬ n=m):Nat.beq n m=false:=by
 cases hb:Nat.beq n m
 · rfl
 · exact absurd (zAI hb) h
theorem au {α:Type} (n:Nat) (a:α) (r:List (Nat × α)) (m:Nat):lk ((n,a) :: r) m=if n=m then some a else lk r m:=by
 by_cases h:n=m
 · subst h; simp [lk]
 · simp [lk,h,sV h]
theorem BK {α:Type} {l:List (Nat × α)} {m:Nat} {a:α} (h:lk l m=some a):(m,a)∈l:=by
 induction l with
 | nil=>simp [lk] at h
 | cons p l ih=>
   obtain ⟨n,x⟩:=p;rw [au] at h;by_cases hn:n=m
   · subst hn; simp at h; subst h; simp
   · rw [if_neg hn] at h; exact List.mem_cons_of_mem _ (ih h)
theorem fj {α:Type} (l:List (Nat × α)) (m t:Nat):lk (del m l) t=if t=m then none else lk l t:=by
 induction l with
 | nil=>simp [del,lk]
 | cons p l ih=>
   obtain ⟨n,a⟩:=p;simp only [del];by_cases hn:n=m
   · subst hn;simp only [zBI,au,ih];by_cases ht:t=n
     · simp [ht]
     · simp [ht,Ne.symm ht]
   · have:Nat.beq n m=false:=sV hn
     simp only [this,au,ih];by_cases ht:t=m
     · subst ht; simp [hn]
     · simp [ht]
theorem xp {α β:Type} (f:α→β) (l:List (Nat × α)) (m:Nat):lk (l.map fun (t,d)=>(t,f d)) m=(lk l m).map f:=by
 induction l with
 | nil=>rfl
 | cons p l ih=>
   obtain ⟨n,a⟩:=p;simp only [List.map_cons,au,ih];by_cases h:n=m <;> simp [h]
theorem cl (out:Out) (S:ac) (n:Nat):lk (ap out S) n=match lk out n with|some o=>o|none=>lk S n:=by
 induction out with
 | nil=>simp [ap,lk]
 | cons p r ih=>
   obtain ⟨m,o⟩:=p;rw [au];by_cases h:m=n
   · subst h;cases o with
     | some b=>simp [ap,au]
     | none=>simp [ap,fj]
   · rw [if_neg h];cases o with
     | some b=>simp only [ap,au,if_neg h,fj,if_neg (Ne.symm h)]; exact ih
     | none=>simp only [ap,fj,if_neg (Ne.symm h)]; exact ih
theorem dH {n:Nat} {l:List Nat}:kA n l=true↔n∈l:=by
 induction l with
 | nil=>simp [kA]
 | cons m r ih=>
   simp only [kA,zAe,ih,List.mem_cons];constructor
   · rintro (h|h)
     · exact .inl (zAI h).symm
     · exact .inr h
   · rintro (h|h)
     · subst h; exact .inl (zBI n)
     · exact .inr h
theorem lH {l:List Nat} (h:dd l=true):∀ (i j n:Nat),l[i]?=some n→l[j]?=some n→i=j:=by
 induction l with
 | nil=>simp
 | cons m r ih=>
   simp only [dd,zAE] at h;obtain ⟨h1,h2⟩:=h;have hm:m ∉ r:=fun hin=>by simp [dH.2 hin] at h1
   intro i j n hi hj;cases i with
   | zero=>
     simp at hi;subst hi;cases j with
     | zero=>rfl
     | succ j=>exact absurd (zAD (by simpa using hj)) hm
   | succ i=>
     cases j with
     | zero=>
       simp at hj;subst hj;exact absurd (zAD (by simpa using hi)) hm
     | succ j=>rw [ih h2 i j n (by simpa using hi) (by simpa using hj)]
theorem eR:∀ {ns:List Nat} {n i:Nat},g7 ns n=some i→ns[i]?=some n
 | [],_,_,h=>by simp [g7] at h
 | m :: r,n,i,h=>by
   simp only [g7] at h;split at h
   · rename_i hb;cases h;simp [zAI hb]
   · split at h
     · rename_i j hj;cases h;simpa using eR hj
     · cases h
theorem oh:∀ {ns:List Nat} {n:Nat},g7 ns n=none→n ∉ ns
 | [],_,_=>by simp
 | m :: r,n,h=>by
   simp only [g7] at h;split at h
   · cases h
   · rename_i hb;split at h
     · cases h
     · rename_i hj
       have:m≠n:=by rintro rfl; rw [zBI] at hb; cases hb
       simp [Ne.symm this,oh hj]
theorem ol:∀ {ns l q:List Nat},oc ns l=some q→q.length=l.length∧∀ (i n m:Nat),l[i]?=some n→q[i]?=some m→ns[m]?=some n
 | ns,[],q,h=>by simp [oc] at h; subst h; simp
 | ns,n :: r,q,h=>by
   simp only [oc] at h;split at h
   · rename_i i hi;split at h
     · rename_i q' hq;cases h;obtain ⟨h1,h2⟩:=ol hq;refine ⟨by simp [h1],fun j a m hj hm=>?_⟩;cases j with
       | zero=>simp at hj hm; subst hj hm; exact eR hi
       | succ j=>exact h2 j a m (by simpa using hj) (by simpa using hm)
     · cases h
   · cases h
theorem gn {ρ ρ':Nat→Option Value} (hr:∀ t u,ρ t=some u→ρ' t=some u) {t:Nat} {u:Value} (h:nmv ρ t=some u):nmv ρ' t=some u:=by
 unfold nmv at h ⊢;rw [Option.map_eq_some_iff] at h ⊢;obtain ⟨g,hg,e⟩:=h;exact ⟨g,hr _ _ hg,e⟩
theorem Kp.refl (u:Value):Kp u u:=.inl rfl
theorem F2 {x y:Value} {vs us:List Value} (h:Value.tuple (x :: vs).toArray=.tuple (y :: us).toArray):x=y:=by
 injection h with h
 have:=congrArg Array.toList h
 simp at this;exact this.1
theorem Kp.trans {a b c:Value} (h:Kp a b) (g:Kp b c):Kp a c:=by
 rcases h with rfl|⟨x,vs,vs',rfl,rfl⟩
 · exact g
 · rcases g with rfl|⟨y,us,us',h1,rfl⟩
   · exact .inr ⟨x,vs,vs',rfl,rfl⟩
   · obtain rfl:=F2 h1;exact .inr ⟨x,vs,us',rfl,rfl⟩
theorem Kp.top {a b:Value} (h:Kp a b):Go.Ab.top b=Go.Ab.top a:=by
 rcases h with rfl|⟨x,vs,vs',rfl,rfl⟩ <;> rfl
theorem Kp.pointer {a:Option Addr} {b:Value} (h:Kp (.pointer a) b):b=.pointer a:=by
 rcases h with h|⟨x,vs,vs',h,_⟩
 · exact h
 · cases h
theorem Kp.slice {a:Option Addr} {n c:Nat} {b:Value} (h:Kp (.slice a n c) b):b=.slice a n c:=by
 rcases h with h|⟨x,vs,vs',h,_⟩
 · exact h
 · cases h
theorem nc {ρ ρ':Nat→Option Value} (hr:∀ t u,ρ t=some u→∃ u',ρ' t=some u'∧Kp u u') {t:Nat} {u:Value} (h:nmv ρ t=some u):nmv ρ' t=some u:=by
 unfold nmv at h ⊢;rw [Option.map_eq_some_iff] at h ⊢;obtain ⟨g,hg,e⟩:=h;obtain ⟨g',h1,h2⟩:=hr _ _ hg;exact ⟨g',h1,by rw [h2.top,e]⟩
theorem dt {ρ:Nat→Option Value} {t:Nat} {u:Value} (h:ρ t=some u) (ht:top u=u):nmv ρ t=some u:=by
 unfold nmv;rw [h,Option.map_some,ht]
theorem my {ρ ρ':Nat→Option Value} {t t':Nat} (h:ρ t=ρ' t'):nmv ρ t=nmv ρ' t':=by unfold nmv; rw [h]
theorem Es {ρ:Nat→Option Value} {t:Nat} {u:Value} (h:nmv ρ t=some u):∃ g,ρ t=some g:=by
 unfold nmv at h;rw [Option.map_eq_some_iff] at h;obtain ⟨g,hg,_⟩:=h;exact ⟨g,hg⟩
theorem dX {ρ:Nat→Option Value} {t:Nat} {u:Value} {vs:List Value} (h:ρ t=some (.tuple (u :: vs).toArray)):nmv ρ t=some u:=by
 unfold nmv;rw [h,Option.map_some];rfl
theorem cJ {w:World} {base:Nat} {e:TypeId} {sz:Nat} {u:Value} {n:Nat} {us:List Value} (h:w.ownsRow base e sz u n us):top u=u:=by
 rcases h.2 with ⟨rfl,_⟩|⟨g,cap,cur,rfl,_⟩ <;> rfl
theorem pf {w:World} {base:Nat} {e:TypeId} {sz:Nat} {u:Value} {n:Nat} {us:List Value} (h:w.ownsRow base e sz u n us):u.oneCell'=true:=by
 rcases h.2 with ⟨rfl,_⟩|⟨g,cap,cur,rfl,_⟩ <;> rfl
theorem VI.one {w:World} {Av:Nat→Prop} {d:D} {u:Value} (h:VI w Av d u) (hd:∀ ds,d≠.agg ds):u.oneCell'=true:=by
 cases h <;> first|rfl|assumption|(exact absurd rfl (hd _))
theorem eS (a:Addr) (n:Nat):(a.add n).block=a.block:=by unfold Addr.add; split <;> rfl
theorem u9 {α:Type} {l:List α} {i:Nat} {a:α} (h:l[i]?=some a):l≠[]:=by
 rintro rfl;simp at h
theorem VI.mono {w w':World} {Av Av':Nat→Prop} (hk:∀ b,b < w.heap.size→¬ Av b→w'.heap[b]?=w.heap[b]?) (hz:w.heap.size≤w'.heap.size)
   (ha:∀ b,b < w.heap.size→Av' b→Av b) {d:D} {u:Value} (h:VI w Av d u):VI w' Av' d u:=by
 induction h with
 | b x=>exact .b x
 | k kd n=>exact .k kd n
 | s l=>exact .s l
 | v h=>exact .v h
 | fn f=>exact .fn f
 | nil=>exact .nil
 | sl0=>exact .sl0
 | sl U hn hnc hc hb hav hsz hcell h1 _ ih=>
   refine .sl U hn hnc hc (fun hx=>zBh (hb hx) hz) (fun hx h=>hav hx (ha _ (hb hx) h)) hsz (fun i j cs d h h'=>?_) h1 ih;have hx:=u9 h;rw [World.cell?_of_block (w:=w) (by rw [eS]; exact hk _ (hb hx) (hav hx))];exact hcell i j cs d h h'
 | ep U hb hav hcell h1 _ ih=>
   refine .ep U (by omega) (fun h=>hav (ha _ hb h)) (fun j d h=>?_) h1 ih;rw [World.cell?_of_block (w:=w) (by rw [eS]; exact hk _ hb hav)];exact hcell j d h
 | agg hl h1 _ ih=>exact .agg hl h1 ih
section
variable {w w':World} {Av Av':Nat→Prop} {ρ ρ':Nat→Option Value}
theorem VA.mono (hi:∀ d u,VI w Av d u→VI w' Av' d u) (hr:∀ t u,ρ t=some u→ρ' t=some u) {d:D} {u:Value} (h:VA w Av ρ d u):VA w' Av' ρ' d u:=by
 cases h with
 | im h=>exact .im (hi _ _ h)
 | own h h1=>exact .own (gn hr h) h1
 | bp h=>exact .bp (hr _ _ h)
 | op h=>exact .op (gn hr h)
 | fn hl h=>exact .fn hl fun i n u a b=>let ⟨h1,h2⟩:=h i n u a b; ⟨hr _ _ h1,h2⟩
 | vw h h1 h2 h3 h4=>exact .vw (hr _ _ h) h1 h2 h3 h4
 | junk h1=>exact .junk h1
theorem VG.mono (hi:∀ d u,VI w Av d u→VI w' Av' d u) (hr:∀ t u,ρ t=some u→ρ' t=some u) {d:D} {u:Value} (h:VG w Av ρ d u):VG w' Av' ρ' d u:=by
 cases h with
 | atom h=>exact .atom (h.mono hi hr)
 | agg hl h1 h=>exact .agg hl h1 fun i d u a b=>(h i d u a b).mono hi hr
theorem VR.mono (hi:∀ d u,VI w Av d u→VI w' Av' d u) (hr:∀ t u,ρ t=some u→ρ' t=some u) {d:D} {u:Value} (h:VR w Av ρ d u):VR w' Av' ρ' d u:=by
 cases h with
 | gr h=>exact .gr (h.mono hi hr)
 | tup hl h=>exact .tup hl fun i d u a b=>(h i d u a b).mono hi hr
theorem VA.monoK (hi:∀ d u,VI w Av d u→VI w' Av' d u) (hr:∀ t u,ρ t=some u→∃ u',ρ' t=some u'∧Kp u u') {d:D} {u:Value} (h:VA w Av ρ d u):VA w' Av' ρ' d u:=by
 cases h with
 | im h=>exact .im (hi _ _ h)
 | own h h1=>exact .own (nc hr h) h1
 | bp h=>
   obtain ⟨u',h1,h2⟩:=hr _ _ h;exact .bp (by rw [h1,h2.pointer])
 | op h=>exact .op (nc hr h)
 | fn hl h=>
   refine .fn hl fun i n u a b=>?_;obtain ⟨h1,b',rfl⟩:=h i n u a b;obtain ⟨u',h3,h4⟩:=hr _ _ h1;exact ⟨by rw [h3,h4.pointer],b',rfl⟩
 | vw h h1 h2 h3 h4=>
   obtain ⟨u',g1,g2⟩:=hr _ _ h;exact .vw (by rw [g1,g2.slice]) h1 h2 h3 h4
 | junk h1=>exact .junk h1
theorem VG.monoK (hi:∀ d u,VI w Av d u→VI w' Av' d u) (hr:∀ t u,ρ t=some u→∃ u',ρ' t=some u'∧Kp u u') {d:D} {u:Value} (h:VG w Av ρ d u):VG w' Av' ρ' d u:=by
 cases h with
 | atom h=>exact .atom (h.monoK hi hr)
 | agg hl h1 h=>exact .agg hl h1 fun i d u a b=>(h i d u a b).monoK hi hr
theorem VR.monoK (hi:∀ d u,VI w Av d u→VI w' Av' d u) (hr:∀ t u,ρ t=some u→∃ u',ρ' t=some u'∧Kp u u') {d:D} {u:Value} (h:VR w Av ρ d u):VR w' Av' ρ' d u:=by
 cases h with
 | gr h=>exact .gr (h.monoK hi hr)
 | tup hl h=>exact .tup hl fun i d u a b=>(h i d u a b).monoK hi hr
theorem VA.one {d:D} {u:Value} (h:VA w Av ρ d u) (hd:∀ ds,d≠.agg ds):u.oneCell'=true:=by
 cases h with
 | im h=>exact h.one hd
 | own h h1=>exact h1
 | bp h=>rfl
 | op h=>rfl
 | fn=>rfl
 | vw=>rfl
 | junk h1=>exact h1
theorem VI.noImm {d:D} {u:Value} (h:VI w Av d u) (hn:aj d):VI w' Av' d u:=by
 cases h with
 | b x=>exact .b x
 | k kd n=>exact .k kd n
 | s l=>exact .s l
 | v h=>exact .v h
 | fn f=>exact .fn f
 | nil=>exact .nil
 | sl0=>exact .sl0
 | sl=>exact hn.elim
 | ep=>exact hn.elim
 | agg=>exact hn.elim
end
end Go.Ab
namespace Go.Ab
open Go Go.RowKit
theorem Fr.refl (F:Nat→Prop) (w:World):Fr F w w:=⟨rfl,rfl,rfl,zAL _,fun _ _ _=>rfl⟩
theorem Fr.trans {F F':Nat→Prop} {a b c:World} (h:Fr F a b) (k:Fr F' b c) (hF:∀ x,x < a.heap.size→F' x→F x):Fr F a c:=
 ⟨k.os.trans h.os,k.tape.trans h.tape,k.output.trans h.output,zAq h.size k.size,
  fun i hi hn=>(k.block i (zBh hi h.size) (fun hf=>hn (hF i hi hf))).trans (h.block i hi hn)⟩
theorem Fr.weaken {F F':Nat→Prop} {a b:World} (h:Fr F a b) (hF:∀ x,F x→F' x):Fr F' a b:=
 ⟨h.os,h.tape,h.output,h.size,fun k hk hn=>h.block k hk fun hf=>hn (hF k hf)⟩
section
variable {P:Program}
theorem SR.named {w:World} {Av:Nat→Prop} {ρ:Nat→Option Value} {t:Nat} {b:Blk} (h:SR P w Av ρ t b):∃ u,ρ t=some u:=by
 cases b with
 | box e cs=>obtain ⟨_,_,h,_⟩:=h; exact ⟨_,h⟩
 | own e xs=>obtain ⟨_,_,h,_⟩:=h; exact ⟨_,h⟩
 | row e xs=>obtain ⟨_,_,h,_⟩:=h; exact ⟨_,h⟩
 | fr xs=>obtain ⟨_,h,_⟩:=h; exact Es h
 | deep e e2 zs=>obtain ⟨_,_,_,h⟩:=h; exact ⟨_,h.name⟩
theorem lI {w:World} {e:TypeId} {sz:Nat} {u:Value} {n:Nat} {us:List Value} (h:w.ownsRow 0 e sz u n us) {x:Nat} (hx:be u=some x):x < w.heap.size:=by
 rcases h.2 with ⟨rfl,_⟩|⟨g,cap,cur,rfl,_,hh,_⟩
 · simp [be] at hx
 · simp [be] at hx;subst hx;exact (Array.getElem?_eq_some_iff.1 hh).1
theorem iL {u u':Value} {vs vs':List Value} {o:Option Value} (h:o=some (.tuple (u :: vs).toArray)) (h':o=some (.tuple (u' :: vs').toArray)):u=u'∧vs=vs':=by
 rw [h] at h';simpa using h'
theorem je.bk {P:Program} {w:World} {Av:Nat→Prop} {ρ:Nat→Option Value} {t:Nat} {e e2:TypeId} {zs:List aE} {u:Value} {vs us:List Value} (h:je P w Av ρ t e e2 zs u vs us) {x:Nat} :
   Go.Ab.bk (.deep e e2 zs) (ρ t) x↔(be u=some x∨∃ (i:Nat) (xs:List (List D)) (v:Value),zs[i]?=some (.an xs)∧vs[i]?=some v∧be v=some x):=by
 constructor
 · rintro ⟨u',vs',h1,h2⟩;obtain ⟨rfl,rfl⟩:=iL h.name h1;exact h2
 · intro h2;exact ⟨u,vs,h.name,h2⟩
theorem je.us_at {P:Program} {w:World} {Av:Nat→Prop} {ρ:Nat→Option Value} {t:Nat} {e e2:TypeId} {zs:List aE} {u:Value} {vs us:List Value} (h:je P w Av ρ t e e2 zs u vs us) {i:Nat} {z:aE} (hz:zs[i]?=some z) :
   ∃ x v,us[i]?=some x∧vs[i]?=some v∧FU P w Av ρ e2 z x v:=by
 have hi:=(List.getElem?_eq_some_iff.1 hz).1;have h1:us[i]?=some (us[i]'(by rw [h.lu]; exact hi)):=zAB _;have h2:vs[i]?=some (vs[i]'(by rw [h.lv]; exact hi)):=zAB _;exact ⟨_,_,h1,h2,h.slot i z _ _ hz h1 h2⟩
theorem SR.lt {w:World} {Av:Nat→Prop} {ρ:Nat→Option Value} {t:Nat} {b:Blk} (h:SR P w Av ρ t b) (hlv:de b=true) {x:Nat} (hx:bk b (ρ t) x):x < w.heap.size:=by
 have row:∀ (e:TypeId) (u:Value) (us:List Value) (n:Nat),ρ t=some u→w.ownsRow 0 e (P.cellsOf e) u n us→(ρ t).bind be=some x→x < w.heap.size:=by
  intro e u us n hr ho hx;rw [hr] at hx;exact lI ho (by simpa using hx)
 cases b with
 | box e cs=>
   obtain ⟨g,us,hr,hh,_⟩:=h;rw [hr] at hx;simp [bk,be] at hx;subst hx;exact (Array.getElem?_eq_some_iff.1 hh).1
 | own e xs=>obtain ⟨u,us,hr,ho,_⟩:=h; exact row e u us _ hr ho hx
 | row e xs=>obtain ⟨u,us,hr,ho,_⟩:=h; exact row e u us _ hr ho hx
 | fr xs=>simp [de] at hlv
 | deep e e2 zs=>
   obtain ⟨u,vs,us,h⟩:=h;rcases h.bk.1 hx with h1|⟨i,xs,v,h1,h2,h3⟩
   · exact lI h.own h1
   · obtain ⟨x',v',_,g2,_,_,g4,_⟩:=h.us_at h1;rw [h2] at g2;cases g2;exact lI g4 h3
theorem Rows.mono {p q:D→Value→Prop} (h:∀ d u,p d u→q d u) {sz:Nat} {xs:List (List D)} {us:List Value} (k:Rows p sz xs us):Rows q sz xs us:=
 ⟨k.len,k.el,k.one,fun i j cs d a b=>let ⟨u,e1,e2⟩:=k.at_ i j cs d a b; ⟨u,e1,h _ _ e2⟩⟩
theorem cQ {w w':World} {e:TypeId} {sz:Nat} {u:Value} {n:Nat} {us:List Value} (h:w.ownsRow 0 e sz u n us) (hb:∀ x,be u=some x→w'.heap[x]?=w.heap[x]?):w'.ownsRow 0 e sz u n us:=by
 refine ⟨h.1,?_⟩;rcases h.2 with hn|⟨g,cap,cur,rfl,hb0,hh,rest⟩
 · exact .inl hn
 · refine .inr ⟨g,cap,cur,rfl,hb0,?_,rest⟩;rw [hb g rfl];exact hh
theorem SR.mono {w w':World} {Av Av':Nat→Prop} {ρ ρ':Nat→Option Value} {t:Nat} {b:Blk} (hi:∀ d u,VI w Av d u→VI w' Av' d u) (hr:∀ t u,ρ t=some u→ρ' t=some u)
   (hb:de b=true→∀ x,bk b (ρ t) x→w'.heap[x]?=w.heap[x]?) (h:SR P w Av ρ t b):SR P w' Av' ρ' t b:=by
 cases b with
 | box e cs=>
   obtain ⟨g,us,h0,hh,hl,h1,hc⟩:=h;refine ⟨g,us,hr _ _ h0,?_,hl,h1,fun i d u a b=>(hc i d u a b).mono hi hr⟩;rw [hb rfl g (by rw [h0]; rfl)];exact hh
 | own e xs=>
   obtain ⟨u,us,h0,ho,hc⟩:=h;exact ⟨u,us,hr _ _ h0,cQ ho fun x hx=>hb rfl x (by rw [h0]; exact hx),hc.mono hi⟩
 | row e xs=>
   obtain ⟨u,us,h0,ho,hc⟩:=h;exact ⟨u,us,hr _ _ h0,cQ ho fun x hx=>hb rfl x (by rw [h0]; exact hx),hc.mono fun _ _ h=>h.mono hi hr⟩
 | fr xs=>
   obtain ⟨u,h0,hv⟩:=h;exact ⟨u,gn hr h0,hi _ _ hv⟩
 | deep e e2 zs=>
   obtain ⟨u,vs,us,h⟩:=h;refine ⟨u,vs,us,hr _ _ h.name,h.lv,h.lu,cQ h.own fun x hx=>hb rfl x (h.bk.2 (.inl hx)),h.one,fun i z x v h1 h2 h3=>?_,h.apart,h.dis⟩
   have:=h.slot i z x v h1 h2 h3
   cases z with
   | an xs=>
     obtain ⟨e1,ys,e2,e3⟩:=this;exact ⟨e1,ys,cQ e2 fun x hx=>hb rfl x (h.bk.2 (.inr ⟨i,xs,v,h1,h3,hx⟩)),e3.mono hi⟩
   | nm a=>exact gn hr this
   | lost=>trivial
theorem SR.monoK {w w':World} {Av Av':Nat→Prop} {ρ ρ':Nat→Option Value} {t:Nat} {b:Blk} (hi:∀ d u,VI w Av d u→VI w' Av' d u) (hr:∀ t u,ρ t=some u→∃ u',ρ' t=some u'∧Kp u u') (he:∀ u,ρ t=some u→ρ' t=some u)
   (hb:de b=true→∀ x,bk b (ρ t) x→w'.heap[x]?=w.heap[x]?) (h:SR P w Av ρ t b):SR P w' Av' ρ' t b:=by
 cases b with
 | box e cs=>
   obtain ⟨g,us,h0,hh,hl,h1,hc⟩:=h;refine ⟨g,us,he _ h0,?_,hl,h1,fun i d u a b=>(hc i d u a b).monoK hi hr⟩;rw [hb rfl g (by rw [h0]; rfl)];exact hh
 | own e xs=>
   obtain ⟨u,us,h0,ho,hc⟩:=h;exact ⟨u,us,he _ h0,cQ ho fun x hx=>hb rfl x (by rw [h0]; exact hx),hc.mono hi⟩
 | row e xs=>
   obtain ⟨u,us,h0,ho,hc⟩:=h;exact ⟨u,us,he _ h0,cQ ho fun x hx=>hb rfl x (by rw [h0]; exact hx),hc.mono fun _ _ h=>h.monoK hi hr⟩
 | fr xs=>
   obtain ⟨u,h0,hv⟩:=h;exact ⟨u,nc hr h0,hi _ _ hv⟩
 | deep e e2 zs=>
   obtain ⟨u,vs,us,h⟩:=h;refine ⟨u,vs,us,he _ h.name,h.lv,h.lu,cQ h.own fun x hx=>hb rfl x (h.bk.2 (.inl hx)),h.one,fun i z x v h1 h2 h3=>?_,h.apart,h.dis⟩
   have:=h.slot i z x v h1 h2 h3
   cases z with
   | an xs=>
     obtain ⟨e1,ys,e2,e3⟩:=this;exact ⟨e1,ys,cQ e2 fun x hx=>hb rfl x (h.bk.2 (.inr ⟨i,xs,v,h1,h3,hx⟩)),e3.mono hi⟩
   | nm a=>exact nc hr this
   | lost=>trivial
end
theorem IK {w:World} {Av:Nat→Prop} {x:Value} {d:D} (h:ofV x=some d):VI w Av d x:=by
 unfold ofV at h;split at h <;> try (cases h; done)
 · cases h; exact .b _
 · cases h; exact .k _ _
 · rename_i s;cases h
   have:s=⟨s.data.toList.toArray⟩:=by cases s; simp
   rw [this];exact .s _
 · cases h; exact .nil
 · cases h; exact .v rfl
section
variable {E:Env} {cx:Cx} {tm:Tm} {S:ac} {a:Act} {w:World} {ρ:Nat→Option Value}
theorem R.eval (h:R E cx tm S a w ρ) {x:Operand} {d:D} (hx:ev E.gl tm x=some d):VR w (AvS cx.G S ρ) ρ d (a.eval x):=by
 cases x with
 | tmp t=>exact h.tm t d hx
 | const v=>exact .gr (.atom (.im (IK hx)))
 | func f=>simp only [ev,zAV] at hx; subst hx; exact .gr (.atom (.im (.fn f)))
 | global g=>
   simp only [ev] at hx;split at hx
   · rename_i cs hg;cases hx;exact .gr (.atom (.im (h.gl g cs hg)))
   · cases hx
theorem R.held_lt (h:R E cx tm S a w ρ) {x:Nat} (hx:eH S ρ x):x < w.heap.size:=by
 obtain ⟨t,b,hl,hv,hb⟩:=hx;exact (h.st t b hl).lt hv hb
theorem R.named (h:R E cx tm S a w ρ) {n:Nat} {b:Blk} (hl:lk S n=some b):∃ u,ρ n=some u:=(h.st n b hl).named
theorem pg {S S':ac} (h:∀ n,lk S' n=lk S n) {x:Nat}:eH S' ρ x↔eH S ρ x:=by
 constructor <;> rintro ⟨t,b,h1,h2,h3⟩
 · exact ⟨t,b,by rw [← h]; exact h1,h2,h3⟩
 · exact ⟨t,b,by rw [h]; exact h1,h2,h3⟩
theorem ph {G:Nat→Prop} {S S':ac} (h:∀ n,lk S' n=lk S n):AvS G S' ρ=AvS G S ρ:=by
 funext x
 simp only [AvS,pg h]
theorem R.ext (h:R E cx tm S a w ρ) {tm':Tm} {S':ac} (ht:∀ t,lk tm' t=lk tm t) (hs:∀ n,lk S' n=lk S n):R E cx tm' S' a w ρ:=by
 refine ⟨fun t d hd=>?_,fun t b hl=>?_,fun t t' b b' x h1 h2=>?_,fun x hx=>h.new x ((pg hs).1 hx),h.keep,?_,h.fr,h.g,h.gf,h.defers,h.num⟩
 · rw [ph hs]; exact h.tm t d (by rw [← ht]; exact hd)
 · rw [ph hs]; exact h.st t b (by rw [← hs]; exact hl)
 · rw [hs] at h1 h2; exact h.dis t t' b b' x h1 h2
 · rw [ph hs]; exact h.gl
theorem F3 (a:Act) (dst:Option Nat) (v:Value):(a.put dst v).tmps.size=a.tmps.size:=by
 cases dst <;> simp [Act.put]
theorem BL (a:Act) (dst:Option Nat) (v:Value):(a.put dst v).defers=a.defers:=by
 cases dst <;> simp [Act.put]
theorem F4 (a:Act) (t t':Nat) (v:Value) (ht:t < a.tmps.size):(a.put (some t) v).tmps.getD t' undef=if t'=t then v else a.tmps.getD t' undef:=by
 simp only [Act.put,zBJ,Array.getElem?_setIfInBounds];by_cases h:t=t'
 · subst h; simp [ht]
 · simp [h,Ne.symm h]
theorem R.value (h:R E cx tm S a w ρ) {dst:Option Nat} (hd:∀ t,dst=some t→t < cx.N) {d:D} {v:Value} (hv:VR w (AvS cx.G S ρ) ρ d v) :
   R E cx (put dst d tm) S (a.put dst v) w ρ:=by
 refine ⟨fun t d' ht=>?_,h.st,h.dis,h.new,h.keep,h.gl,h.fr,h.g,h.gf,by rw [BL]; exact h.defers,by rw [F3]; exact h.num⟩;cases dst with
 | none=>exact h.tm t d' ht
 | some t0=>
   have hlt:t0 < a.tmps.size:=by rw [h.num]; exact hd t0 rfl
   rw [F4 a t0 t v hlt];simp only [put,au] at ht;by_cases e:t0=t
   · subst e;simp at ht;subst ht;simpa using hv
   · rw [if_neg e] at ht;rw [if_neg (Ne.symm e)];exact h.tm t d' ht
structure F5 (E:Env) (cx:Cx) (S:ac) (w:World) (ρ:Nat→Option Value) (out:Out) (w':World) (ρ':Nat→Option Value):Prop where
 fr:Fr (fun x=>∃ n b,lk out n≠none∧lk S n=some b∧de b=true∧bk b (ρ n) x) w w'
 old:∀ t u,ρ t=some u→ρ' t=some u
 blk:∀ n b,lk out n=some (some b)→de b=true→∀ x,bk b (ρ' n) x→w.heap.size≤x∨∃ m b',lk out m≠none∧lk S m=some b'∧de b'=true∧bk b' (ρ m) x
 dis:∀ n m b c x,lk out n=some (some b)→lk out m=some (some c)→de b=true→de c=true→bk b (ρ' n) x→bk c (ρ' m) x→n=m
 st:(∀ d u,VI w (AvS cx.G S ρ) d u→VI w' (AvS cx.G (ap out S) ρ') d u)→∀ n b,lk out n=some (some b)→SR E.P w' (AvS cx.G (ap out S) ρ') ρ' n b
theorem F5.held (h:R E cx tm S a w ρ) {out:Out} {w':World} {ρ':Nat→Option Value} (k:F5 E cx S w ρ out w' ρ') {x:Nat} (hx:eH (ap out S) ρ' x):w.heap.size≤x∨eH S ρ x:=by
 obtain ⟨t,b,hl,hv,hb⟩:=hx;rw [cl] at hl;split at hl
 · rename_i o ho;subst hl;rcases k.blk t b ho hv x hb with h1|⟨m,b',_,h2,h3,h4⟩
   · exact .inl h1
   · exact .inr ⟨m,b',h2,h3,h4⟩
 · obtain ⟨u,hu⟩:=h.named hl;rw [k.old t u hu] at hb;exact .inr ⟨t,b,hl,hv,by rw [hu]; exact hb⟩
theorem F5.vi (h:R E cx tm S a w ρ) {out:Out} {w':World} {ρ':Nat→Option Value} (k:F5 E cx S w ρ out w' ρ'):∀ d u,VI w (AvS cx.G S ρ) d u→VI w' (AvS cx.G (ap out S) ρ') d u:=by
 intro d u hv;refine hv.mono (fun b hb hav=>k.fr.block b hb ?_) k.fr.size fun x hx hav=>?_
 · rintro ⟨n,c,_,h2,h3,h4⟩;exact hav (.inr ⟨n,c,h2,h3,h4⟩)
 · rcases hav with hg|hh
   · exact .inl hg
   · rcases k.held h hh with h1|h1
     · omega
     · exact .inr h1
theorem R.turn (h:R E cx tm S a w ρ) {out:Out} {w':World} {ρ':Nat→Option Value} (k:F5 E cx S w ρ out w' ρ'):R E cx tm (ap out S) a w' ρ':=by
 have hi:=k.vi h;refine ⟨fun t d ht=>(h.tm t d ht).mono hi k.old,fun t b hl=>?_,fun t t' b b' x h1 h2 l1 l2 x1 x2=>?_,fun x hx=>?_,fun t u ht hu=>let ⟨u',h1,h2⟩:=h.keep t u ht hu; ⟨u',k.old _ _ h1,h2⟩,fun g cs hg=>hi _ _ (h.gl g cs hg),?_,h.g,h.gf,h.defers,h.num⟩
 · rw [cl] at hl;split at hl
   · rename_i o ho;subst hl;exact k.st hi t b ho
   · rename_i hn;refine (h.st t b hl).mono hi k.old fun hlv x hx=>k.fr.block x ((h.st t b hl).lt hlv hx) ?_;rintro ⟨n,c,e1,e2,e3,e4⟩
     have:=h.dis t n b c x hl e2 hlv e3 hx e4
     subst this;exact e1 hn
 · rw [cl] at h1 h2;have old:∀ (s:Nat) (c:Blk) (y:Nat),lk out s=none→lk S s=some c→bk c (ρ' s) y→bk c (ρ s) y:=by
    intro s c y _ hs hy;obtain ⟨u,hu⟩:=h.named hs;rw [k.old s u hu] at hy;rw [hu]; exact hy
   have mix:∀ (s s':Nat) (c c':Blk),lk out s=some (some c)→de c=true→bk c (ρ' s) x→lk out s'=none→lk S s'=some c'→de c'=true→bk c' (ρ' s') x→False:=by
    intro s s' c c' a1 a2 a3 b1 b2 b3 b4;have b5:=old s' c' x b1 b2 b4;rcases k.blk s c a1 a2 x a3 with q|⟨m,d,q1,q2,q3,q4⟩
    · have:=(h.st s' c' b2).lt b3 b5; omega
    · have:=h.dis m s' d c' x q2 b2 q3 b3 q4 b5
      subst this;exact q1 b1
   cases ho:lk out t with
   | none=>
     rw [ho] at h1;cases ho':lk out t' with
     | none=>rw [ho'] at h2; exact h.dis t t' b b' x h1 h2 l1 l2 (old t b x ho h1 x1) (old t' b' x ho' h2 x2)
     | some o=>rw [ho'] at h2; simp only at h2; subst h2; exact (mix t' t b' b ho' l2 x2 ho h1 l1 x1).elim
   | some o=>
     rw [ho] at h1; simp only at h1; subst h1;cases ho':lk out t' with
     | none=>rw [ho'] at h2; exact (mix t t' b b' ho l1 x1 ho' h2 l2 x2).elim
     | some o=>rw [ho'] at h2; simp only at h2; subst h2; exact k.dis t t' b b' x ho ho' l1 l2 x1 x2
 · rcases k.held h hx with h1|h1
   · exact .inl (zAq h.fr.size h1)
   · exact h.new x h1
 · refine h.fr.trans k.fr fun x hx hh=>?_;obtain ⟨n,b,_,h2,h3,h4⟩:=hh;rcases h.new x ⟨n,b,h2,h3,h4⟩ with h1|h1
   · omega
   · exact h1
structure sW (E:Env) (cx:Cx) (S:ac) (w:World) (ρ:Nat→Option Value) (out:Out) (w':World) (ρ':Nat→Option Value):Prop where
 fr:Fr (fun x=>∃ n b,lk out n≠none∧lk S n=some b∧de b=true∧bk b (ρ n) x) w w'
 old:∀ t u,ρ t=some u→∃ u',ρ' t=some u'∧Kp u u'
 same:∀ t u,lk out t=none→ρ t=some u→ρ' t=some u
 blk:∀ n b,lk out n=some (some b)→de b=true→∀ x,bk b (ρ' n) x→w.heap.size≤x∨∃ m b',lk out m≠none∧lk S m=some b'∧de b'=true∧bk b' (ρ m) x
 dis:∀ n m b c x,lk out n=some (some b)→lk out m=some (some c)→de b=true→de c=true→bk b (ρ' n) x→bk c (ρ' m) x→n=m
 st:(∀ d u,VI w (AvS cx.G S ρ) d u→VI w' (AvS cx.G (ap out S) ρ') d u)→∀ n b,lk out n=some (some b)→SR E.P w' (AvS cx.G (ap out S) ρ') ρ' n b
theorem sW.held (h:R E cx tm S a w ρ) {out:Out} {w':World} {ρ':Nat→Option Value} (k:sW E cx S w ρ out w' ρ') {x:Nat} (hx:eH (ap out S) ρ' x):w.heap.size≤x∨eH S ρ x:=by
 obtain ⟨t,b,hl,hv,hb⟩:=hx;rw [cl] at hl;split at hl
 · rename_i o ho;subst hl;rcases k.blk t b ho hv x hb with h1|⟨m,b',_,h2,h3,h4⟩
   · exact .inl h1
   · exact .inr ⟨m,b',h2,h3,h4⟩
 · rename_i ho;obtain ⟨u,hu⟩:=h.named hl;rw [k.same t u ho hu] at hb;exact .inr ⟨t,b,hl,hv,by rw [hu]; exact hb⟩
theorem sW.vi (h:R E cx tm S a w ρ) {out:Out} {w':World} {ρ':Nat→Option Value} (k:sW E cx S w ρ out w' ρ'):∀ d u,VI w (AvS cx.G S ρ) d u→VI w' (AvS cx.G (ap out S) ρ') d u:=by
 intro d u hv;refine hv.mono (fun b hb hav=>k.fr.block b hb ?_) k.fr.size fun x hx hav=>?_
 · rintro ⟨n,c,_,h2,h3,h4⟩;exact hav (.inr ⟨n,c,h2,h3,h4⟩)
 · rcases hav with hg|hh
   · exact .inl hg
   · rcases k.held h hh with h1|h1
     · omega
     · exact .inr h1
theorem R.turnK (h:R E cx tm S a w ρ) {out:Out} {w':World} {ρ':Nat→Option Value} (k:sW E cx S w ρ out w' ρ'):R E cx tm (ap out S) a w' ρ':=by
 have hi:=k.vi h;refine ⟨fun t d ht=>(h.tm t d ht).monoK hi k.old,fun t b hl=>?_,fun t t' b b' x h1 h2 l1 l2 x1 x2=>?_,fun x hx=>?_,fun t u ht hu=>let ⟨u',h1,h2⟩:=h.keep t u ht hu; let ⟨u'',h3,h4⟩:=k.old _ _ h1; ⟨u'',h3,h2.trans h4⟩,fun g cs hg=>hi _ _ (h.gl g cs hg),?_,h.g,h.gf,h.defers,h.num⟩
 · rw [cl] at hl;split at hl
   · rename_i o ho;subst hl;exact k.st hi t b ho
   · rename_i hn;refine (h.st t b hl).monoK hi k.old (fun u hu=>k.same t u hn hu) fun hlv x hx=>k.fr.block x ((h.st t b hl).lt hlv hx) ?_;rintro ⟨n,c,e1,e2,e3,e4⟩
     have:=h.dis t n b c x hl e2 hlv e3 hx e4
     subst this;exact e1 hn
 · rw [cl] at h1 h2;have old:∀ (s:Nat) (c:Blk) (y:Nat),lk out s=none→lk S s=some c→bk c (ρ' s) y→bk c (ρ s) y:=by
    intro s c y hso hs hy;obtain ⟨u,hu⟩:=h.named hs;rw [k.same s u hso hu] at hy;rw [hu]; exact hy
   have mix:∀ (s s':Nat) (c c':Blk),lk out s=some (some c)→de c=true→bk c (ρ' s) x→lk out s'=none→lk S s'=some c'→de c'=true→bk c' (ρ' s') x→False:=by
    intro s s' c c' a1 a2 a3 b1 b2 b3 b4;have b5:=old s' c' x b1 b2 b4;rcases k.blk s c a1 a2 x a3 with q|⟨m,d,q1,q2,q3,q4⟩
    · have:=(h.st s' c' b2).lt b3 b5; omega
    · have:=h.dis m s' d c' x q2 b2 q3 b3 q4 b5
      subst this;exact q1 b1
   cases ho:lk out t with
   | none=>
     rw [ho] at h1;cases ho':lk out t' with
     | none=>rw [ho'] at h2; exact h.dis t t' b b' x h1 h2 l1 l2 (old t b x ho h1 x1) (old t' b' x ho' h2 x2)
     | some o=>rw [ho'] at h2; simp only at h2; subst h2; exact (mix t' t b' b ho' l2 x2 ho h1 l1 x1).elim
   | some o=>
     rw [ho] at h1; simp only at h1; subst h1;cases ho':lk out t' with
     | none=>rw [ho'] at h2; exact (mix t t' b b' ho l1 x1 ho' h2 l2 x2).elim
     | some o=>rw [ho'] at h2; simp only at h2; subst h2; exact k.dis t t' b b' x ho ho' l1 l2 x1 x2
 · rcases k.held h hx with h1|h1
   · exact .inl (zAq h.fr.size h1)
   · exact h.new x h1
 · refine h.fr.trans k.fr fun x hx hh=>?_;obtain ⟨n,b,_,h2,h3,h4⟩:=hh;rcases h.new x ⟨n,b,h2,h3,h4⟩ with h1|h1
   · omega
   · exact h1
end
end Go.Ab
namespace Go.Ab
open Go Go.RowKit
variable {P:Program}
def om:D→Value→Bool
 | .b x,.bool y=>x == y
 | .k kd m,.int kd' n=>decide (kd=kd') && decide (m=n)
 | .s l,.string s=>l == s.data.toList
 | .nil,.slice none 0 0=>true
 | .v (.pointer none),.pointer none=>true
 | _,_=>false
def ne:List D→List Value→Bool
 | [],[]=>true
 | d :: r,v :: q=>om d v && ne r q
 | _,_=>false
def lJ (d:D) (v:Value):Bool:=
 match d,v with
 | .agg ds,.agg us=>ne ds us.toList
 | d,v=>om d v
def eT (P:Program):List (Nat × Nat)→List Field→Bool
 | [],[]=>true
 | (o,z) :: r,f :: fs=>Nat.beq f.offset o && Nat.beq (P.cellsOf f.type) z && Nat.blt 0 z && eT P r fs
 | _,_=>false
def eO (P:Program) (t:TypeId) (k:TK):Bool:=
 match k,P.underlying t with
 | .str,some .string=>true
 | .int kd,some (.int kd')=>decide (kd=kd')
 | .bool,some .bool=>true
 | .slice e,some (.slice e')=>Nat.beq e e'
 | .struct pl,some (.struct fs)=>eT P pl fs.toList
 | .parr n e,some (.array m e')=>Nat.beq n m && Nat.beq e e'
 | .other,some (.struct _)=>false
 | .other,some (.array _ _)=>false
 | .other,some _=>true
 | _,_=>false
def eqFields (P:Program) (rec:TypeId→Option (List Nat)):List Field→Nat→Nat→Option (List Nat)
 | [],off,n=>if Nat.beq off n then some [] else none
 | f :: fs, off, n => match f.name != "_" && Nat.beq f.offset off && Nat.blt 0 (P.cellsOf f.type), rec f.type with
   | true,some c=>match eqFields P rec fs (off+P.cellsOf f.type) n with
     | some r=>if Nat.beq c.length (P.cellsOf f.type) then some (c++r) else none
     | none=>none
   | _,_=>none
def iM (P:Program):Nat→TypeId→Option (List Nat)
 | 0,_=>none
 | d+1,t=>match P.underlying t with
   | some .string=>if Nat.beq (P.cellsOf t) 1 then some [2] else none
   | some .bool=>if Nat.beq (P.cellsOf t) 1 then some [0] else none
   | some (.int _)=>if Nat.beq (P.cellsOf t) 1 then some [1] else none
   | some (.struct fs)=>if P.stoodInHeld t then none else eqFields P (iM P d) fs.toList 0 (P.cellsOf t)
   | _=>none
def Iv (P:Program) (t:TypeId) (c:Option (List Nat)):Bool:=
 match c with
 | none=>true
 | some c=>(match P.underlying t with|some (.struct _)=>true|_=>false) && decide (iM P 5 t=some c) && !P.eqGuardType P.depth t
def DH (P:Program) (t:TypeId) (td:TD):Bool:=
 match P.info? t with
 | some i=>Nat.beq i.size td.size && Nat.beq i.bytes td.bytes && Nat.blt 0 td.size && Nat.beq (cellsOf td.zero).length td.size &&
  (match i.zero with|some v=>lJ td.zero v|none=>false) && eO P t td.kind && Iv P t td.eqv
 | none=>false
def qu (P:Program) (tys:List (Nat × TD)):Bool:=tys.all fun (t,td)=>DH P t td
def dW (E:Env):Prop:=∀ t td,E.ty t=some td→DH E.P t td=true
theorem pi {E:Env} {tys:List (Nat × TD)} (ht:E.ty=lk tys) (h:qu E.P tys=true):dW E:=by
 intro t td hl;rw [ht] at hl;exact zAs.1 h _ (BK hl)
section
variable {E:Env} (hty:dW E)
include hty
theorem dW.info {t:TypeId} {td:TD} (h:E.ty t=some td):∃ i v,E.P.info? t=some i∧i.size=td.size∧i.bytes=td.bytes∧i.zero=some v∧0 < td.size∧(cellsOf td.zero).length=td.size∧lJ td.zero v=true∧eO E.P t td.kind=true:=by
 have:=hty t td h
 unfold DH at this;split at this
 · rename_i i hi;simp only [zAE] at this;obtain ⟨⟨⟨⟨⟨⟨h1,h2⟩,h3⟩,h4⟩,h5⟩,h6⟩,_⟩:=this;split at h5
   · rename_i v hv;exact ⟨i,v,hi,zAI h1,zAI h2,hv,zAC h3,zAI h4,h5,h6⟩
   · cases h5
 · cases this
theorem dW.eqv {t:TypeId} {td:TD} {c:List Nat} (h:E.ty t=some td) (he:td.eqv=some c):iM E.P 5 t=some c∧E.P.eqGuardType E.P.depth t=false∧∃ fs,E.P.underlying t=some (.struct fs):=by
 have:=hty t td h
 unfold DH at this;split at this
 · simp only [zAE,he,Iv] at this;obtain ⟨_,⟨h1,h2⟩,h3⟩:=this;refine ⟨of_decide_eq_true h2,by simpa using h3,?_⟩;split at h1
   · exact ⟨_,by assumption⟩
   · cases h1
 · cases this
theorem dW.cells {t:TypeId} {td:TD} (h:E.ty t=some td):E.P.cellsOf t=td.size:=by
 obtain ⟨i,v,hi,hs,_⟩:=hty.info h;simp [Program.cellsOf,hi,hs]
end
theorem nf {w:World} {Av:Nat→Prop} {d:D} {v:Value} (h:om d v=true):VI w Av d v:=by
 unfold om at h;split at h <;> try (cases h; done)
 · simp at h; subst h; exact .b _
 · simp at h; obtain ⟨rfl,rfl⟩:=h; exact .k _ _
 · rename_i l s;have h':l=s.data.toList:=by simpa using h
   have:s=⟨l.toArray⟩:=by subst h'; cases s; simp
   rw [this];exact .s _
 · exact .nil
 · exact .v rfl
theorem re {d:D} {v:Value} (h:om d v=true):(∀ ds,d≠.agg ds)∧v.cells=#[v]∧cellsOf d=[d]:=by
 unfold om at h;split at h <;> try (cases h; done)
 all_goals exact ⟨by simp,rfl,rfl⟩
theorem sX {w:World} {Av:Nat→Prop}:∀ {ds:List D} {us:List Value},ne ds us=true →
   ds.length=us.length∧(∀ u∈us,u.oneCell'=true)∧∀ (i:Nat) (d:D) (u:Value),ds[i]?=some d→us[i]?=some u→VI w Av d u
 | [],[],_=>⟨rfl,by simp,by simp⟩
 | [],_ :: _,h=>by simp [ne] at h
 | _ :: _,[],h=>by simp [ne] at h
 | d :: r,v :: q,h=>by
   simp only [ne,zAE] at h;obtain ⟨h1,h2⟩:=h;obtain ⟨i1,i2,i3⟩:=sX (w:=w) (Av:=Av) h2;refine ⟨by simp [i1],?_,?_⟩
   · intro u hu;rcases List.mem_cons.1 hu with rfl|hu
     · exact (nf (w:=w) (Av:=Av) h1).one (re h1).1
     · exact i2 u hu
   · intro i d' u' hd hu;cases i with
     | zero=>simp at hd hu; subst hd hu; exact nf h1
     | succ i=>exact i3 i d' u' (by simpa using hd) (by simpa using hu)
structure Cs (w:World) (Av:Nat→Prop) (ρ:Nat→Option Value) (ds:List D) (us:List Value):Prop where
 len:ds.length=us.length
 one:∀ u∈us,u.oneCell'=true
 at_:∀ (i:Nat) (d:D) (u:Value),ds[i]?=some d→us[i]?=some u→VA w Av ρ d u
theorem kO {u:Value} (h:u.oneCell'=true):u.cells=#[u]:=by cases u <;> first|rfl|(simp [Value.oneCell'] at h)
theorem VG.cells {w:World} {Av:Nat→Prop} {ρ:Nat→Option Value} {d:D} {u:Value} (h:VG w Av ρ d u):Cs w Av ρ (cellsOf d) u.cells.toList:=by
 have atom:∀ d u,VA w Av ρ d u→(∀ ds,d≠.agg ds)→Cs w Av ρ (cellsOf d) u.cells.toList:=by
  intro d u h hd;have h1:=h.one hd;have hc:cellsOf d=[d]:=by cases d <;> first|rfl|exact absurd rfl (hd _)
  rw [kO h1,hc];refine ⟨rfl,by simpa using h1,fun i d' u' a b=>?_⟩;cases i with
  | zero=>simp at a b; subst a b; exact h
  | succ i=>simp at a
 cases h with
 | atom h=>
   by_cases hd:∃ ds,d=.agg ds
   · obtain ⟨ds,rfl⟩:=hd;cases h with
     | im h=>
       cases h with
       | agg hl h1 hr=>exact ⟨by simpa [cellsOf,Value.cells] using hl,by simpa [Value.cells] using h1,fun i d u a b=>.im (hr i d u a (by simpa [Value.cells] using b))⟩
   · exact atom d u h (fun ds e=>hd ⟨ds,e⟩)
 | agg hl h1 h=>exact ⟨by simpa [cellsOf,Value.cells] using hl,by simpa [Value.cells] using h1,fun i d u a b=>h i d u a (by simpa [Value.cells] using b)⟩
theorem dn {w:World} {Av:Nat→Prop} {ρ:Nat→Option Value} {d:D} {v:Value} (h:lJ d v=true):Cs w Av ρ (cellsOf d) v.cells.toList∧∀ (i:Nat) (d':D) (u:Value),(cellsOf d)[i]?=some d'→v.cells.toList[i]?=some u→VI w Av d' u:=by
 unfold lJ at h;split at h
 · obtain ⟨h1,h2,h3⟩:=sX (w:=w) (Av:=Av) h;exact ⟨⟨by simpa [cellsOf,Value.cells] using h1,by simpa [Value.cells] using h2,fun i d u a b=>.im (h3 i d u a (by simpa [Value.cells] using b))⟩,fun i d u a b=>h3 i d u a (by simpa [Value.cells] using b)⟩
 · obtain ⟨h1,h2,h3⟩:=re h;have hv:=nf (w:=w) (Av:=Av) h;rw [h2,h3];refine ⟨⟨rfl,by simpa using hv.one h1,?_⟩,?_⟩ <;> intro i d' u a b <;> cases i <;> simp at a b <;> subst a b <;> first|exact .im hv|exact hv
theorem ng {α β:Type} (p:Nat→α→β→Prop):∀ (ds:List α),(∀ (j:Nat) (d:α),ds[j]?=some d→∃ u,p j d u)→∃ us:List β,us.length=ds.length∧∀ (j:Nat) (d:α) (u:β),ds[j]?=some d→us[j]?=some u→p j d u
 | [],_=>⟨[],rfl,by simp⟩
 | d :: r,h=>by
   obtain ⟨u,hu⟩:=h 0 d rfl;obtain ⟨us,h1,h2⟩:=ng (fun j=>p (j+1)) r (fun j d' hd=>h (j+1) d' (by simpa using hd));refine ⟨u :: us,by simp [h1],fun j d' u' a b=>?_⟩;cases j with
   | zero=>simp at a b; subst a b; exact hu
   | succ j=>exact h2 j d' u' (by simpa using a) (by simpa using b)
theorem add_zero (a:Addr):a.add 0=a:=rfl
theorem qv (b o j:Nat):(⟨b,o,none⟩:Addr).add j=⟨b,o+j,none⟩:=by unfold Addr.add; split <;> simp_all
theorem sn (a:Addr) (i j:Nat):(a.add i).add j=a.add (i+j):=by
 unfold Addr.add;by_cases hi:i=0 <;> by_cases hj:j=0 <;> simp [hi,hj,Nat.add_assoc]
section
variable {E:Env} (hty:dW E) {w:World}
include hty
theorem qw {t:TypeId} {td:TD} (h:E.ty t=some td):(isAgg t).run E.P w=.ok (qp td.kind) w:=by
 obtain ⟨i,v,_,_,_,_,_,_,_,hk⟩:=hty.info h;unfold eO at hk;split at hk <;> (try (cases hk; done)) <;> rename_i hq hu <;> rw [hq] <;> first
  | simp [isAgg,run_underlying hu,qp]
  | (rename_i d _ _ ; cases d <;> first|(simp_all; done)|simp [isAgg,run_underlying hu,qp])
theorem fK {t:TypeId} {td:TD} (h:E.ty t=some td):(Go.sizeOf t).run E.P w=.ok td.size w:=by
 obtain ⟨i,v,hi,hs,_⟩:=hty.info h;simp [Go.sizeOf,typeInfo,hi,hs]
theorem zr {t:TypeId} {td:TD} (h:E.ty t=some td):∃ v,(zeroValue t).run E.P w=.ok v w∧lJ td.zero v=true:=by
 obtain ⟨i,v,hi,hs,_,hz,_,_,hc,_⟩:=hty.info h;exact ⟨v,by simp [zeroValue,typeInfo,hi,hz],hc⟩
theorem qx {Av:Nat→Prop} {ρ:Nat→Option Value} {t:TypeId} {td:TD} (h:E.ty t=some td) {ad:Addr} {ds:List D} {K:D→Prop}
   (hc:∀ (j:Nat) (d:D),ds[j]?=some d→∃ u,w.cell? (ad.add j)=some u∧u.oneCell'=true∧VA w Av ρ d u) (hk:iO td ds K) :
   ∃ d v,(loadVar t ad).run E.P w=.ok v w∧VG w Av ρ d v∧K d:=by
 unfold iO at hk;split at hk
 · rename_i hagg;split at hk
   · rename_i hle;have hle:td.size≤ds.length:=zAC hle;obtain ⟨us,h1,h2⟩:=ng (fun (j:Nat) (d:D) (u:Value)=>w.cell? (ad.add j)=some u∧u.oneCell'=true∧VA w Av ρ d u) (ds.take td.size) (fun j d hd=>hc j d (by
      rw [zAn] at hd; split at hd <;> first|exact hd|cases hd))
     have hlen:us.length=td.size:=by rw [h1,zAd]; omega
     have hall:∀ (j:Nat) (u:Value),us[j]?=some u→∃ d,(ds.take td.size)[j]?=some d:=by
      intro j u hu
      have:j < us.length:=(List.getElem?_eq_some_iff.1 hu).1
      exact ⟨_,zAB (by omega)⟩
     refine ⟨_,.agg us.toArray,?_,.agg h1.symm ?_ (fun j d u a b=>(h2 j d u a b).2.2),hk⟩
     · have:=run_loadCells_list (P:=E.P) w ad us (fun j u hu=>by obtain ⟨d,hd⟩:=hall j u hu; exact (h2 j d u hd hu).1)
       rw [hlen] at this;simp [loadVar,qw hty h,hagg,fK hty h,this]
     · intro u hu;obtain ⟨j,hj⟩:=List.mem_iff_getElem?.1 hu;obtain ⟨d,hd⟩:=hall j u hj;exact (h2 j d u hd hj).2.1
   · exact hk.elim
 · rename_i hagg;split at hk
   · rename_i d r;obtain ⟨u,hu,h1,hv⟩:=hc 0 d rfl;refine ⟨d,u,?_,.atom hv,hk⟩
     have:w.cell? ad=some u:=hu
     simp [loadVar,qw hty h,hagg,run_load,this]
   · exact hk.elim
end
section
variable {E:Env} {cx:Cx} {tm:Tm} {S:ac} {a:Act} {w:World} {ρ:Nat→Option Value}
theorem VI.ep_inv {Av:Nat→Prop} {cs:List D} {v:Value} (h:VI w Av (.ep cs) v):∃ ad,v=.pointer (some ad)∧ad.block < w.heap.size∧¬ Av ad.block ∧
   ∀ (j:Nat) (d:D),cs[j]?=some d→∃ u,w.cell? (ad.add j)=some u∧u.oneCell'=true∧VI w Av d u:=by
 cases h with
 | ep U hb hav hcell h1 hrec=>exact ⟨_,rfl,hb,hav,fun j d hd=>⟨U j,hcell j d hd,h1 j d hd,hrec j d hd⟩⟩
theorem VR.ep_inv {Av:Nat→Prop} {cs:List D} {v:Value} (h:VR w Av ρ (.ep cs) v):VI w Av (.ep cs) v:=by
 cases h with
 | gr h=>cases h with
   | atom h=>cases h with
     | im h=>exact h
theorem VR.bp_inv {Av:Nat→Prop} {n off:Nat} {v:Value} (h:VR w Av ρ (.bp n off) v):∃ b,ρ n=some (.pointer (some ⟨b,0,none⟩))∧v=.pointer (some ⟨b,off,none⟩):=by
 cases h with
 | gr h=>cases h with
   | atom h=>cases h with
     | im h=>cases h
     | bp h=>exact ⟨_,h,rfl⟩
theorem VR.op_inv {Av:Nat→Prop} {n sz i off:Nat} {v:Value} (h:VR w Av ρ (.op n sz i off) v):∃ g len c,nmv ρ n=some (.slice (some ⟨g,0,none⟩) len c)∧v=.pointer (some ⟨g,i * sz+off,none⟩):=by
 cases h with
 | gr h=>cases h with
   | atom h=>cases h with
     | im h=>cases h
     | op h=>exact ⟨_,_,_,h,rfl⟩
theorem VR.own_inv {Av:Nat→Prop} {n:Nat} {v:Value} (h:VR w Av ρ (.own n) v):nmv ρ n=some v:=by
 cases h with
 | gr h=>cases h with
   | atom h=>cases h with
     | im h=>cases h
     | own h=>exact h
theorem VR.k_inv {Av:Nat→Prop} {kd:IntKind} {n:Int} {v:Value} (h:VR w Av ρ (.k kd n) v):v=.int kd n:=by
 cases h with
 | gr h=>cases h with
   | atom h=>cases h with
     | im h=>cases h; rfl
theorem VR.b_inv {Av:Nat→Prop} {x:Bool} {v:Value} (h:VR w Av ρ (.b x) v):v=.bool x:=by
 cases h with
 | gr h=>cases h with
   | atom h=>cases h with
     | im h=>cases h; rfl
theorem VR.s_inv {Av:Nat→Prop} {l:List UInt8} {v:Value} (h:VR w Av ρ (.s l) v):v=.string ⟨l.toArray⟩:=by
 cases h with
 | gr h=>cases h with
   | atom h=>cases h with
     | im h=>cases h; rfl
theorem VR.nil_inv {Av:Nat→Prop} {v:Value} (h:VR w Av ρ .nil v):v=.slice none 0 0:=by
 cases h with
 | gr h=>cases h with
   | atom h=>cases h with
     | im h=>cases h; rfl
theorem VR.sl_inv {Av:Nat→Prop} {xs:List (List D)} {v:Value} (h:VR w Av ρ (.sl xs) v):VI w Av (.sl xs) v:=by
 cases h with
 | gr h=>cases h with
   | atom h=>cases h with
     | im h=>exact h
theorem VI.sl_inv {Av:Nat→Prop} {xs:List (List D)} {v:Value} (h:VI w Av (.sl xs) v):∃ A n c,v=.slice A n c∧xs.length=n∧n≤c∧c≤maxLen∧(A=none→xs=[]∧ c=0) ∧
   ∀ ad,A=some ad→(xs≠[]→ad.block < w.heap.size)∧(xs≠[]→¬ Av ad.block)∧∃ sz,(∀ cs∈xs,cs.length=sz)∧∀ (i j:Nat) (cs:List D) (d:D),xs[i]?=some cs→cs[j]?=some d→∃ u,w.cell? (ad.add (i * sz+j))=some u∧u.oneCell'=true∧VI w Av d u:=by
 cases h with
 | sl0=>exact ⟨none,0,0,rfl,rfl,zAL _,zAG _,fun _=>⟨rfl,rfl⟩,fun ad h=>by cases h⟩
 | sl U hn hnc hc hb hav hsz hcell h1 hrec=>
   exact ⟨_,_,_,rfl,hn,hnc,hc,fun h=>(by cases h),fun ad h=>by cases h; exact ⟨hb,hav,_,hsz,fun i j cs d a b=>⟨_,hcell i j cs d a b,h1 i j cs d a b,hrec i j cs d a b⟩⟩⟩
theorem sq {e:TypeId} {sz:Nat} {K:Prop} (h:szK E e sz K):∃ te,E.ty e=some te∧te.size=sz∧K:=by
 unfold szK at h;split at h
 · rename_i te hte;split at h
   · rename_i hb;exact ⟨te,hte,zAI hb,h⟩
   · exact h.elim
 · exact h.elim
variable (hty:dW E)
include hty
theorem vT (h:R E cx tm S a w ρ) {t:TypeId} {td:TD} (ht:E.ty t=some td) {d:D} {v:Value} (hv:VR w (AvS cx.G S ρ) ρ d v) {K:D→Prop} (hk:jM E S d td K) :
   ∃ d' u,(Instr.loadAt t v).run E.P w=.ok u w∧VG w (AvS cx.G S ρ) ρ d' u∧K d':=by
 unfold jM at hk;split at hk
 · rename_i n off;split at hk
   · rename_i e cs hl;obtain ⟨b,hr,rfl⟩:=hv.bp_inv;obtain ⟨b',us,hr',hh,hlen,h1,hc⟩:=h.st _ _ hl;rw [hr] at hr';simp at hr';subst hr';obtain ⟨d',u,hrun,hg,hK⟩:=qx hty ht (ad:=⟨b,off,none⟩) (Av:=AvS cx.G S ρ) (ρ:=ρ) (fun j d hd=>by
      rw [zAi] at hd;have hlt:off+j < us.length:=by rw [← hlen]; exact (List.getElem?_eq_some_iff.1 hd).1
      refine ⟨us[off+j],?_,h1 _ (zAX hlt),hc _ _ _ hd (zAB hlt)⟩;rw [qv,cell_of_row w b _ _ _ _ hh];simp [hlt]) hk
     exact ⟨d',u,by simp [Instr.loadAt,Instr.sureAddr,hrun],hg,hK⟩
   · exact hk.elim
 · rename_i cs;obtain ⟨ad,rfl,hb,hav,hc⟩:=hv.ep_inv.ep_inv;obtain ⟨d',u,hrun,hg,hK⟩:=qx hty ht (ad:=ad) (Av:=AvS cx.G S ρ) (ρ:=ρ) (fun j d hd=>let ⟨u,a1,a2,a3⟩:=hc j d hd; ⟨u,a1,a2,.im a3⟩) hk
   exact ⟨d',u,by simp [Instr.loadAt,Instr.sureAddr,hrun],hg,hK⟩
 · rename_i n sz i off;have key:∀ (e:TypeId) (xs:List (List D)) (u0:Value) (us:List Value),ρ n=some u0→w.ownsRow 0 e (E.P.cellsOf e) u0 xs.length us→Rows (VA w (AvS cx.G S ρ) ρ) (E.P.cellsOf e) xs us →
      szK E e sz (∃ cs,xs[i]?=some cs∧iO td (cs.drop off) K)→∃ d' u,(Instr.loadAt t v).run E.P w=.ok u w∧VG w (AvS cx.G S ρ) ρ d' u∧K d':=by
    intro e xs u0 us hr' ho hc hk;obtain ⟨te,hte,hsz,cs,hcs,hk⟩:=sq hk;obtain ⟨g,len,c,hr,rfl⟩:=hv.op_inv;have hz:E.P.cellsOf e=sz:=by rw [hty.cells hte,hsz]
    replace hr':=dt hr' (cJ ho)
    rw [hr] at hr';simp at hr';subst hr';obtain ⟨d',u,hrun,hg,hK⟩:=qx hty ht (ad:=⟨g,i * sz+off,none⟩) (Av:=AvS cx.G S ρ) (ρ:=ρ) (fun j d hd=>by
     rw [zAi] at hd;obtain ⟨u,hu,hv⟩:=hc.at_ i (off+j) cs d hcs hd;rw [hz] at hu;have hlt:=(List.getElem?_eq_some_iff.1 hu).1;refine ⟨u,?_,hc.one _ (zAD hu),hv⟩
     have:=ho.cells (g:=g) rfl _ _ hu
     rw [qv] at this ⊢;simpa [Nat.add_assoc] using this) hk
    exact ⟨d',u,by simp [Instr.loadAt,Instr.sureAddr,hrun],hg,hK⟩
   split at hk
   · rename_i e xs hl;obtain ⟨u0,us,hr',ho,hc⟩:=h.st _ _ hl;exact key e xs u0 us hr' ho (hc.mono fun _ _ h=>.im h) hk
   · rename_i e xs hl;obtain ⟨u0,us,hr',ho,hc⟩:=h.st _ _ hl;exact key e xs u0 us hr' ho hc hk
   · exact hk.elim
 · exact hk.elim
end
end Go.Ab
namespace Go.Ab
open Go Go.RowKit
theorem F6 {P:Program} {o:Oper} {a:Act} {w w':World} {v:Value} {next:Act→World→Prop} {Q:Exit→Act→World→Prop}
   (hrun:(execOp a.eval o).run P w=.ok (.value v) w') (h:next (a.put o.dst v) w'):o.wp P a w next Q:=by
 unfold Oper.wp;rw [hrun];exact h
theorem HD {P:Program} {o:Oper} {a:Act} {w w':World} {next:Act→World→Prop} {Q:Exit→Act→World→Prop}
   (hrun:(execOp a.eval o).run P w=.ok .skip w') (h:next (a.put o.dst undef) w'):o.wp P a w next Q:=by
 unfold Oper.wp;rw [hrun];exact h
theorem cp {gl:Nat→Option (List D)} {tm:Tm} {x:Operand} {K:D→Prop} (h:evK gl tm x K):∃ d,ev gl tm x=some d∧K d:=by
 unfold evK at h;split at h
 · exact ⟨_,by assumption,h⟩
 · exact h.elim
theorem br {E:Env} {t:TypeId} {K:TD→Prop} (h:tyK E t K):∃ d,E.ty t=some d∧K d:=by
 unfold tyK at h;split at h
 · exact ⟨_,by assumption,h⟩
 · exact h.elim
theorem kh {x:Bool} {K:Bool→Prop} (h:aH x K):K x:=by
 cases x
 · exact h.f rfl
 · exact h.t rfl
theorem VR.vg {w:World} {Av:Nat→Prop} {ρ:Nat→Option Value} {d:D} {u:Value} (h:VR w Av ρ d u) (hn:sK d=false):VG w Av ρ d u:=by
 cases h with
 | gr h=>exact h
 | tup hl h=>simp [sK] at hn
theorem VR.undef {w:World} {Av:Nat→Prop} {ρ:Nat→Option Value}:VR w Av ρ (.tup []) undef:=.tup (ds:=[]) (us:=[]) rfl (by simp)
def nG (E:Env) (o:Oper) (tm:Tm) (S:ac) (fp:List Nat) (nx nx':Nat) (d:D) (out:Out):Prop:=
 ∀ (cx:Cx) (tm':Tm) (S':ac) (a:Act) (w:World) (ρ:Nat→Option Value) (Q:Exit→Act→World→Prop),(∀ t,o.dst=some t→t < cx.N) →
   (∀ x∈o.op.operands,ev E.gl tm' x=ev E.gl tm x)→(∀ n∈fp,lk S' n=lk S n)→R E cx tm' S' a w ρ→(∀ n,nx≤n→n < nx'→ρ n=none) →
   o.wp E.P a w (fun a' w'=>∃ ρ',R E cx (put o.dst d tm') (ap out S') a' w' ρ'∧∀ n,¬ (nx≤n∧n < nx')→ρ n=none→ρ' n=none) Q
def Ok1 (E:Env) (o:Oper) (tm:Tm) (S:ac) (nx:Nat) (K:Kt):Prop:=
 ∃ (fp:Fp) (out:Out) (nx':Nat) (d:D) (S2:ac),nG E o tm S fp.all nx nx' d out∧(∀ n,lk out n≠none→n∈fp.wr)∧(∀ n∈fp.wr,n∈fp.all)∧nx≤nx' ∧
   (∀ n,nx≤n→n < nx'→n∈fp.wr)∧(∀ n,lk S2 n=lk (ap out S) n)∧K fp (put o.dst d tm) S2 nx'
section
variable {E:Env} {o:Oper} {tm:Tm} {S:ac} {nx:Nat} {K:Kt}
theorem Ok1.val {fp:Fp} {out:Out} {nx':Nat} {d:D} {S2:ac} (h1:∀ n,lk out n≠none→n∈fp.wr) (h2:∀ n∈fp.wr,n∈fp.all) (h3:nx≤nx') (h4:∀ n,nx≤n→n < nx'→n∈fp.wr) (h5:∀ n,lk S2 n=lk (ap out S) n)
   (hk:K fp (put o.dst d tm) S2 nx')
   (hs:∀ (cx:Cx) (tm':Tm) (S':ac) (a:Act) (w:World) (ρ:Nat→Option Value),(∀ x∈o.op.operands,ev E.gl tm' x=ev E.gl tm x)→(∀ n∈fp.all,lk S' n=lk S n)→R E cx tm' S' a w ρ→(∀ n,nx≤n→n < nx'→ρ n=none) →
     ∃ v w' ρ',(execOp a.eval o).run E.P w=.ok (.value v) w'∧R E cx tm' (ap out S') a w' ρ'∧VR w' (AvS cx.G (ap out S') ρ') ρ' d v∧∀ n,¬ (nx≤n∧n < nx')→ρ' n=ρ n):Ok1 E o tm S nx K:=by
 refine ⟨fp,out,nx',d,S2,fun cx tm' S' a w ρ Q hd he hf h hn=>?_,h1,h2,h3,h4,h5,hk⟩;obtain ⟨v,w',ρ',e1,e2,e3,e4⟩:=hs cx tm' S' a w ρ he hf h hn;exact F6 e1 ⟨ρ',e2.value hd e3,fun n h1 h2=>by rw [e4 n h1]; exact h2⟩
theorem Ok1.pure {fp:List Nat} {d:D} (hk:K ⟨fp,[]⟩ (put o.dst d tm) S nx)
   (hs:∀ (cx:Cx) (tm':Tm) (S':ac) (a:Act) (w:World) (ρ:Nat→Option Value),(∀ x∈o.op.operands,ev E.gl tm' x=ev E.gl tm x)→(∀ n∈fp,lk S' n=lk S n)→R E cx tm' S' a w ρ →
     ∃ v,(execOp a.eval o).run E.P w=.ok (.value v) w∧VR w (AvS cx.G S' ρ) ρ d v):Ok1 E o tm S nx K:=by
 refine Ok1.val (fp:=⟨fp,[]⟩) (out:=[]) (nx':=nx) (d:=d) (S2:=S) (by simp [lk]) (by simp) (zAL _) (fun n h1 h2=>by omega) (fun _=>rfl) hk fun cx tm' S' a w ρ he hf h hn=>?_;obtain ⟨v,e1,e2⟩:=hs cx tm' S' a w ρ he hf h;exact ⟨v,w,ρ,e1,h,e2,fun _ _=>rfl⟩
end
theorem kP (o1 o2:Out) (S:ac):ap (o1++o2) S=ap o1 (ap o2 S):=by
 induction o1 with
 | nil=>rfl
 | cons p r ih=>
   obtain ⟨n,o⟩:=p;cases o <;> simp [ap,ih]
section
variable {P:Program} {w:World} {Av:Nat→Prop}
theorem gB {e:TypeId} {sz:Nat} {xs:List (List D)} {u:Value} {us:List Value} (ho:w.ownsRow 0 e sz u xs.length us) (hc:Rows (VI w Av) sz xs us) (hav:∀ x,be u=some x→¬ Av x):VI w Av (.sl xs) u:=by
 rcases ho.2 with ⟨rfl,hn⟩|⟨g,cap,cur,rfl,_,hh,hnc,hcm,hcs,htake⟩
 · have:xs=[]:=List.eq_nil_of_length_eq_zero hn
   subst this;exact .sl0
 · have key:∀ (i j:Nat) (cs:List D) (d:D),xs[i]?=some cs→cs[j]?=some d→us[i * sz+j]?=some (us.getD (i * sz+j) undef)∧VI w Av d (us.getD (i * sz+j) undef):=by
     intro i j cs d h2 h3;obtain ⟨u',h4,h5⟩:=hc.at_ i j cs d h2 h3
     have:us.getD (i * sz+j) undef=u':=by simp [List.getD,h4]
     rw [this];exact ⟨h4,h5⟩
   refine .sl (sz:=sz) (fun i j=>us.getD (i * sz+j) undef) rfl hnc hcm (fun _=>(Array.getElem?_eq_some_iff.1 hh).1) (fun _=>hav g rfl) hc.el ?_ ?_ ?_
   · intro i j cs d h2 h3;exact ho.cells (g:=g) rfl _ _ (key i j cs d h2 h3).1
   · intro i j cs d h2 h3;exact hc.one _ (zAD (key i j cs d h2 h3).1)
   · intro i j cs d h2 h3;exact (key i j cs d h2 h3).2
end
def frB (b:Blk):Blk:=
 match imB b with
 | some xs=>.fr xs
 | none=>b
def bI (S:ac):List Nat→Out
 | []=>[]
 | n :: r=>match (lk S n).bind imB with
   | some xs=>(n,some (.fr xs)) :: bI S r
   | none=>bI S r
theorem HE (b:Blk):frB (frB b)=frB b:=by
 unfold frB;cases h:imB b with
 | none=>simp [h]
 | some xs=>rfl
theorem Eu (t n:Nat) (b:Blk) (r:ac):frz1 t ((n,b) :: r)=(n,if n=t then frB b else b) :: frz1 t r:=by
 unfold frB;by_cases hn:n=t
 · subst hn;simp only [frz1,zBI,if_true];cases imB b <;> rfl
 · simp only [frz1,sV hn,if_neg hn]
theorem DI (t:Nat):∀ (S:ac) (m:Nat),lk (frz1 t S) m=(lk S m).map fun b=>if m=t then frB b else b
 | [],m=>rfl
 | (n,b) :: r,m=>by
   rw [Eu,au,au,DI t r m];by_cases hm:n=m
   · subst hm; simp
   · simp [hm]
theorem F7:∀ (ts:List Nat) (S:ac) (m:Nat),lk (frz ts S) m=(lk S m).map fun b=>if m∈ts then frB b else b
 | [],S,m=>by cases h:lk S m <;> simp [frz,h]
 | t :: r,S,m=>by
   rw [frz,F7 r,DI];cases h:lk S m with
   | none=>rfl
   | some b=>
     by_cases h1:m=t
     · by_cases h2:m∈r
       · have h3:t∈r:=by rw [← h1]; exact h2
         simp [h1,h3,HE]
       · have h3:¬ t∈r:=by rw [← h1]; exact h2
         simp [h1,h3]
     · simp [h1]
theorem dY (S:ac):∀ (ts:List Nat) (m:Nat),lk (bI S ts) m=if m∈ts then ((lk S m).bind imB).map fun xs=>some (.fr xs) else none
 | [],m=>by simp [bI,lk]
 | t :: r,m=>by
   have ih:=dY S r m;simp only [bI];cases hl:(lk S t).bind imB with
   | some xs=>
     simp only;rw [au,ih];by_cases h:t=m
     · subst h; simp [hl]
     · simp [h,Ne.symm h]
   | none=>
     simp only;rw [ih];by_cases h:m=t
     · subst h; simp [hl]
     · simp [h]
theorem qy (ts:List Nat) (S:ac) (n:Nat):lk (frz ts S) n=lk (ap (bI S ts) S) n:=by
 rw [F7,cl,dY];by_cases h:n∈ts
 · simp only [if_pos h];cases hl:lk S n with
   | none=>rfl
   | some b=>
     simp only [Option.map_some,Option.bind_some,frB];cases imB b <;> rfl
 · simp only [if_neg h];cases hl:lk S n <;> rfl
theorem ss:∀ {zs:List aE} {ys:List (List D)},imZ zs=some ys→ys.length=zs.length∧∀ (i:Nat) (z:aE),zs[i]?=some z→∃ xs,z=.an xs∧ys[i]?=some [.sl xs]
 | [],ys,h=>by simp [imZ] at h; subst h; simp
 | .an xs :: r,ys,h=>by
   simp only [imZ] at h;split at h
   · rename_i q hq;cases h;obtain ⟨h1,h2⟩:=ss hq;refine ⟨by simp [h1],fun i z hz=>?_⟩;cases i with
     | zero=>simp at hz; subst hz; exact ⟨xs,rfl,rfl⟩
     | succ i=>simpa using h2 i z (by simpa using hz)
   · cases h
 | .nm a :: r,ys,h=>by simp [imZ] at h
 | .lost :: r,ys,h=>by simp [imZ] at h
theorem je.rows {P:Program} {w:World} {Av Av':Nat→Prop} {ρ:Nat→Option Value} {t:Nat} {e e2:TypeId} {zs:List aE} {u:Value} {vs us:List Value} (h:je P w Av ρ t e e2 zs u vs us) {ys:List (List D)} (hz:imZ zs=some ys)
   (hi:∀ d u,VI w Av d u→VI w Av' d u) (hav:∀ x,Go.Ab.bk (.deep e e2 zs) (ρ t) x→¬ Av' x):VI w Av' (.sl ys) u:=by
 obtain ⟨z1,z2⟩:=ss hz;refine gB (e:=e) (sz:=1) (us:=us) (by rw [z1]; exact h.own) ⟨by rw [z1,h.lu,Nat.mul_one],fun cs hcs=>?_,h.one,fun i j cs d hc hd=>?_⟩ fun x hx=>hav x (h.bk.2 (.inl hx))
 · obtain ⟨i,hi'⟩:=List.mem_iff_getElem?.1 hcs;have hlt:i < zs.length:=by rw [← z1]; exact (List.getElem?_eq_some_iff.1 hi').1
   obtain ⟨xs,_,q⟩:=z2 i _ (zAB hlt);rw [hi'] at q;cases q;rfl
 · have hlt:i < zs.length:=by rw [← z1]; exact (List.getElem?_eq_some_iff.1 hc).1
   have hzi:zs[i]?=some zs[i]:=zAB hlt;obtain ⟨xs,q1,q2⟩:=z2 i _ hzi;rw [hc] at q2;cases q2;rw [q1] at hzi;cases j with
   | zero=>
     simp at hd;subst hd;obtain ⟨x,v,g1,g2,rfl,inner,g4,g5⟩:=h.us_at hzi;exact ⟨x,by simpa using g1,gB g4 (g5.mono hi) fun y hy=>hav y (h.bk.2 (.inr ⟨i,xs,x,hzi,g2,hy⟩))⟩
   | succ j=>simp at hd
section
variable {E:Env} {cx:Cx} {tm:Tm} {S S0:ac} {a:Act} {w:World} {ρ:Nat→Option Value}
theorem R.notAv (h:R E cx tm S a w ρ) {n:Nat} {b c:Blk} (hl:lk S n=some b) (hb:de b=true) (hc:de c=false) {x:Nat} (hx:bk b (ρ n) x):¬ AvS cx.G (ap [(n,some c)] S) ρ x:=by
 rintro (hG|⟨t,b',q1,q2,q3⟩)
 · have h1:=h.g x hG;rcases h.new x ⟨n,b,hl,hb,hx⟩ with h2|h2
   · omega
   · exact h.gf x hG h2
 · rw [cl,au] at q1;by_cases e:n=t
   · rw [if_pos e] at q1; simp at q1; subst q1; rw [hc] at q2; cases q2
   · rw [if_neg e] at q1;exact e (h.dis n t b b' x hl (by simpa [lk] using q1) hb q2 hx q3)
theorem R.frz1 (h:R E cx tm S a w ρ) {n:Nat} {xs:List (List D)} (hl:(lk S n).bind imB=some xs):R E cx tm (ap [(n,some (.fr xs))] S) a w ρ:=by
 have lo:∀ m o,lk [(n,some (Blk.fr xs))] m=some o→m=n∧o=some (.fr xs):=by
  intro m o hm;rw [au] at hm;by_cases e:n=m
  · rw [if_pos e] at hm; cases hm; exact ⟨e.symm,rfl⟩
  · rw [if_neg e] at hm; simp [lk] at hm
 refine h.turn ⟨(Fr.refl _ w),fun _ _ h=>h,fun m b hm hv=>?_,fun m m' b c x hm _ hv=>?_,fun hi m b hm=>?_⟩
 · obtain ⟨_,e⟩:=lo m _ hm; cases e; simp [de] at hv
 · obtain ⟨_,e⟩:=lo m _ hm; cases e; simp [de] at hv
 · obtain ⟨rfl,e⟩:=lo m _ hm;cases e;obtain ⟨b,hl,him⟩:=Option.bind_eq_some_iff.1 hl;have hav:∀ x,de b=true→bk b (ρ m) x→¬ AvS cx.G (ap [(m,some (.fr xs))] S) ρ x:=fun x hb hx=>h.notAv hl hb rfl hx;have hsr:=h.st _ _ hl;cases b with
   | box e cs=>simp [imB] at him
   | row e ys=>simp [imB] at him
   | own e ys=>
     simp only [imB,zAV] at him;subst him;obtain ⟨u,us,hr,ho,hc⟩:=hsr;exact ⟨u,dt hr (cJ ho),gB ho (hc.mono hi) fun x hx=>hav x rfl (by rw [hr]; exact hx)⟩
   | fr ys=>
     simp only [imB,zAV] at him;subst him;obtain ⟨u,hr,hv⟩:=hsr;exact ⟨u,hr,hi _ _ hv⟩
   | deep e e2 zs=>
     obtain ⟨u,vs,us,hd⟩:=hsr;exact ⟨u,dX hd.name,hd.rows him hi fun x hx=>hav x rfl hx⟩
theorem R.frzs (h:R E cx tm S a w ρ):∀ (ts:List Nat),(∀ t∈ts,lk S t=lk S0 t)→R E cx tm (ap (bI S0 ts) S) a w ρ
 | [],_=>h
 | t :: r,hs=>by
   have h1:=R.frzs h r fun t ht=>hs t (by simp [ht]);simp only [bI];cases hl:(lk S0 t).bind imB with
   | none=>exact h1
   | some xs=>
     have:(t,some (Blk.fr xs)) :: bI S0 r=[(t,some (Blk.fr xs))]++bI S0 r:=rfl
     simp only;rw [this,kP];refine h1.frz1 ?_;rw [cl,dY];by_cases ht:t∈r
     · rw [if_pos ht,hl]; rfl
     · rw [if_neg ht]; simp only; rw [hs t (by simp),hl]
theorem xq (h:R E cx tm S a w ρ) {d d':D} {u:Value} (hS:∀ t∈nmA d,∀ xs,(lk S0 t).bind imB=some xs→lk S t=some (.fr xs))
   (hv:VA w (AvS cx.G S ρ) ρ d u) (hi:cR S0 d=some d'):VI w (AvS cx.G S ρ) d' u∧(∀ ds,d'≠.agg ds):=by
 cases d with
 | own t=>
   have hr:nmv ρ t=some u:=by
    cases hv with
    | im h=>cases h
    | own h=>exact h
   have fin:∀ xs,lk S t=some (.fr xs)→VI w (AvS cx.G S ρ) (.sl xs) u:=by
    intro xs hl;obtain ⟨u',hr',hvi⟩:=h.st t _ hl;rw [hr] at hr';cases hr';exact hvi
   simp only [cR] at hi;split at hi
   · rename_i b hl;split at hi
     · rename_i xs hb;cases hi;exact ⟨fin xs (hS t (by simp [nmA]) xs (by rw [hl]; exact hb)),by simp⟩
     · cases hi
   · cases hi
 | nil=>
   simp only [cR,zAV] at hi;subst hi;cases hv with
   | im h=>cases h; exact ⟨.sl0,by simp⟩
 | fn f cs=>
   simp only [cR] at hi;split at hi
   · simp only [zAV] at hi;subst hi;cases hv with
     | im h=>exact ⟨h,by simp⟩
     | fn hl h=>
       rename_i us;cases us with
       | nil=>exact ⟨.fn f,by simp⟩
       | cons=>simp at hl
   · cases hi
 | bp=>simp [cR] at hi
 | op=>simp [cR] at hi
 | junk=>simp [cR] at hi
 | vw=>simp [cR] at hi
 | agg=>simp [cR] at hi
 | tup=>simp [cR] at hi
 | b x=>simp only [cR,zAV] at hi; subst hi; cases hv with|im h=>exact ⟨h,by simp⟩
 | k x=>simp only [cR,zAV] at hi; subst hi; cases hv with|im h=>exact ⟨h,by simp⟩
 | s x=>simp only [cR,zAV] at hi; subst hi; cases hv with|im h=>exact ⟨h,by simp⟩
 | v x=>simp only [cR,zAV] at hi; subst hi; cases hv with|im h=>exact ⟨h,by simp⟩
 | sl x=>simp only [cR,zAV] at hi; subst hi; cases hv with|im h=>exact ⟨h,by simp⟩
 | ep x=>simp only [cR,zAV] at hi; subst hi; cases hv with|im h=>exact ⟨h,by simp⟩
theorem zt (h:R E cx tm S a w ρ):∀ {ds ds':List D} {us:List Value},(∀ t∈j9 ds,∀ xs,(lk S0 t).bind imB=some xs→lk S t=some (.fr xs)) →
   ds.length=us.length→(∀ (i:Nat) (d:D) (u:Value),ds[i]?=some d→us[i]?=some u→VA w (AvS cx.G S ρ) ρ d u)→me S0 ds=some ds' →
   ds'.length=us.length∧∀ (i:Nat) (d:D) (u:Value),ds'[i]?=some d→us[i]?=some u→VI w (AvS cx.G S ρ) d u
 | [],ds',us,_,hl,_,hi=>by simp only [me,zAV] at hi; subst hi; exact ⟨by simpa using hl,by simp⟩
 | d :: r,ds',[],_,hl,_,_=>by simp at hl
 | d :: r,ds',u :: q,hS,hl,hv,hi=>by
   simp only [me] at hi;split at hi
   · rename_i d1 hd1;split at hi
     · rename_i r1 hr1;cases hi;have h1:=xq h (fun t ht=>hS t (by simp [j9,ht])) (hv 0 d u rfl rfl) hd1;have h2:=zt h (us:=q) (fun t ht=>hS t (by simp [j9,ht])) (by simpa using hl) (fun i d u p q=>hv (i+1) d u (by simpa using p) (by simpa using q)) hr1;refine ⟨by simp [h2.1],fun i d' u' p q=>?_⟩;cases i with
       | zero=>simp at p q; subst p q; exact h1.1
       | succ i=>exact h2.2 i d' u' (by simpa using p) (by simpa using q)
     · cases hi
   · cases hi
theorem pj (h:R E cx tm S a w ρ) {d d':D} {u:Value} (hS:∀ t∈nmD d,∀ xs,(lk S0 t).bind imB=some xs→lk S t=some (.fr xs))
   (hv:VR w (AvS cx.G S ρ) ρ d u) (hi:fJ S0 d=some d'):VI w (AvS cx.G S ρ) d' u:=by
 by_cases ha:∃ ds,d=.agg ds
 · obtain ⟨ds,rfl⟩:=ha;simp only [fJ] at hi;split at hi
   · rename_i ds' hds;cases hi;have core:∀ us:List Value,u=.agg us.toArray→ds.length=us.length→(∀ u∈us,u.oneCell'=true)→(∀ (i:Nat) (d:D) (u:Value),ds[i]?=some d→us[i]?=some u→VA w (AvS cx.G S ρ) ρ d u)→VI w (AvS cx.G S ρ) (.agg ds') u:=by
      intro us hu hl h1 hr;subst hu;obtain ⟨e1,e2⟩:=zt h hS hl hr hds;exact .agg e1 h1 e2
     cases hv with
     | gr hv=>
       cases hv with
       | atom hv=>
         cases hv with
         | im hv=>
           cases hv with
           | agg hl h1 hr=>exact core _ rfl hl h1 fun i d u p q=>.im (hr i d u p q)
       | agg hl h1 hr=>exact core _ rfl hl h1 hr
   · cases hi
 · have hd:fJ S0 d=cR S0 d:=by cases d <;> first|rfl|exact absurd ⟨_,rfl⟩ ha
   rw [hd] at hi;cases hv with
   | gr hv=>
     cases hv with
     | atom hv=>
       refine (xq h ?_ hv hi).1;intro t ht;refine hS t ?_;cases d <;> first|exact ht|exact absurd ⟨_,rfl⟩ ha|(simp [nmA] at ht)
     | agg=>exact absurd ⟨_,rfl⟩ ha
   | tup=>simp [cR] at hi
theorem jN {S':ac} {ts:List Nat} (ha:∀ t∈ts,lk S' t=lk S0 t):∀ t∈ts,∀ xs,(lk S0 t).bind imB=some xs→lk (ap (bI S0 ts) S') t=some (.fr xs):=by
 intro t ht xs hx;rw [cl,dY,if_pos ht,hx];rfl
end
end Go.Ab
namespace Go.Ab
open Go Go.RowKit
section
variable {P:Program} {E:Env}
theorem dW.kind (hty:dW E) {t:TypeId} {td:TD} (h:E.ty t=some td):eO E.P t td.kind=true:=by
 obtain ⟨_,_,_,_,_,_,_,_,_,hk⟩:=hty.info h;exact hk
theorem ci {t e:TypeId} (h:eO P t (.slice e)=true):P.underlying t=some (.slice e):=by
 unfold eO at h;split at h <;> (try (cases h; done)) <;> rename_i h1 h2 <;> (try (cases h1; done));cases h1;rw [h2,zAI h]
theorem jO {t:TypeId} (h:eO P t .str=true):P.underlying t=some .string:=by
 unfold eO at h;split at h <;> (try (cases h; done)) <;> rename_i h1 h2 <;> (try (cases h1; done));exact h2
theorem sY {t:TypeId} {kd:IntKind} (h:eO P t (.int kd)=true):P.underlying t=some (.int kd):=by
 unfold eO at h;split at h <;> (try (cases h; done)) <;> rename_i h1 h2 <;> (try (cases h1; done));cases h1;rw [h2,of_decide_eq_true h]
theorem rf {t:TypeId} {pl:List (Nat × Nat)} (h:eO P t (.struct pl)=true):∃ fs,P.underlying t=some (.struct fs)∧eT P pl fs.toList=true:=by
 unfold eO at h;split at h <;> (try (cases h; done)) <;> rename_i h1 h2 <;> (try (cases h1; done));cases h1;exact ⟨_,h2,h⟩
theorem vU:∀ {pl:List (Nat × Nat)} {fs:List Field},eT P pl fs=true→pl.length=fs.length∧∀ (i o z:Nat),pl[i]?=some (o,z)→∃ f:Field,fs[i]?=some f∧f.offset=o∧P.cellsOf f.type=z∧0 < z
 | [],[],_=>⟨rfl,by simp⟩
 | [],_ :: _,h=>by simp [eT] at h
 | _ :: _,[],h=>by simp [eT] at h
 | (o,z) :: r,f :: fs,h=>by
   simp only [eT,zAE] at h;obtain ⟨⟨⟨h1,h2⟩,h3⟩,h4⟩:=h;obtain ⟨i1,i2⟩:=vU h4;refine ⟨by simp [i1],fun i o' z' hi=>?_⟩;cases i with
   | zero=>
     simp at hi;obtain ⟨rfl,rfl⟩:=hi;exact ⟨f,rfl,zAI h1,zAI h2,zAC h3⟩
   | succ i=>exact i2 i o' z' (by simpa using hi)
theorem pk {t:TypeId} {z:Nat} (h:P.cellsOf t=z) (hz:0 < z) (w:World):(Go.sizeOf t).run P w=.ok z w:=by
 unfold Program.cellsOf at h;cases hi:P.info? t with
 | none=>rw [hi] at h; simp at h; omega
 | some i=>rw [hi] at h; simp at h; simp [Go.sizeOf,typeInfo,hi,h]
variable {cx:Cx} {tm:Tm} {S:ac} {nx:Nat} {a:Act} {w:World} {ρ:Nat→Option Value}
variable {o:Oper}
theorem BM (_h:R E cx tm S a w ρ) {pl:List (Nat × Nat)} {t:TypeId} (hk:eO E.P t (.struct pl)=true) {d:D} {v:Value} (hv:VR w (AvS cx.G S ρ) ρ d v) {i:Nat} {K:D→Prop} (hf:og pl i d K) :
   ∃ d' u,(Instr.fieldAt t v i).run E.P w=.ok u w∧VR w (AvS cx.G S ρ) ρ d' u∧K d':=by
 obtain ⟨fs,hu,hp⟩:=rf hk;unfold og at hf;split at hf
 · rename_i o z hi;split at hf
   · obtain ⟨f,hf1,hf2,hf3,hf4⟩:=(vU hp).2 i o z hi;have hfa:fs[i]?=some f:=by simpa using hf1
     have hrun:∀ ad:Addr,(Instr.fieldAt t (.pointer (some ad)) i).run E.P w=.ok (.pointer (some (ad.add o))) w:=by
      intro ad;have hz:z≠0:=by omega
      simp [Instr.fieldAt,run_underlying hu,hfa,Instr.sureAddr,fieldPlace,pk hf3 hf4,hz,hf2]
     split at hf
     · obtain ⟨b,hr,rfl⟩:=hv.bp_inv;exact ⟨_,_,hrun _,by rw [qv]; exact .gr (.atom (.bp hr)),hf⟩
     · rename_i n sz i' off;obtain ⟨g,len,c,hr,rfl⟩:=hv.op_inv;refine ⟨_,_,hrun _,?_,hf⟩;rw [qv,Nat.add_assoc];exact .gr (.atom (.op hr))
     · rename_i cs;obtain ⟨ad,rfl,hb,hav,hc⟩:=hv.ep_inv.ep_inv;refine ⟨_,_,hrun _,.gr (.atom (.im ?_)),hf⟩;obtain ⟨us,h1,h2⟩:=ng (fun (j:Nat) (d:D) (u:Value)=>w.cell? (ad.add j)=some u∧u.oneCell'=true∧VI w (AvS cx.G S ρ) d u) cs hc;have at_:∀ (j:Nat) (d:D),(cs.drop o)[j]?=some d→cs[o+j]?=some d∧us[o+j]?=some (us.getD (o+j) undef):=by
        intro j d hd;rw [zAi] at hd
        have:o+j < us.length:=by rw [h1]; exact (List.getElem?_eq_some_iff.1 hd).1
        exact ⟨hd,by simp [List.getD,this]⟩
       refine .ep (fun j=>us.getD (o+j) undef) (by rw [eS]; exact hb) (by rw [eS]; exact hav) (fun j d hd=>?_) (fun j d hd=>?_) (fun j d hd=>?_)
       · obtain ⟨e1,e2⟩:=at_ j d hd;rw [sn];exact (h2 _ _ _ e1 e2).1
       · obtain ⟨e1,e2⟩:=at_ j d hd;exact (h2 _ _ _ e1 e2).2.1
       · obtain ⟨e1,e2⟩:=at_ j d hd;exact (h2 _ _ _ e1 e2).2.2
     · exact hf.elim
   · exact hf.elim
 · exact hf.elim
theorem VI.elem {Av:Nat→Prop} {xs:List (List D)} {v:Value} (hv:VI w Av (.sl xs) v) {j:Nat} {cs:List D} (hj:xs[j]?=some cs) :
   ∃ ad n c,v=.slice (some ad) n c∧j < n∧VI w Av (.ep cs) (.pointer (some (ad.add (j * cs.length)))):=by
 obtain ⟨A,n,c,rfl,hn,hnc,hc,hnone,hsome⟩:=hv.sl_inv;have hjl:j < xs.length:=(List.getElem?_eq_some_iff.1 hj).1;cases A with
 | none=>rw [(hnone rfl).1] at hjl; simp at hjl
 | some ad=>
   obtain ⟨hb,hav,sz,hsz,hcell⟩:=hsome ad rfl;have hl:cs.length=sz:=hsz cs (zAD hj);have hne:xs≠[]:=fun e=>by rw [e] at hjl; simp at hjl
   refine ⟨ad,n,c,rfl,by omega,?_⟩;obtain ⟨us,h1,h2⟩:=ng (fun (k:Nat) (d:D) (u:Value)=>w.cell? (ad.add (j * sz+k))=some u∧u.oneCell'=true∧VI w Av d u) cs (fun k d hd=>hcell j k cs d hj hd);have at_:∀ (k:Nat) (d:D),cs[k]?=some d→us[k]?=some (us.getD k undef):=by
    intro k d hd
    have:k < us.length:=by rw [h1]; exact (List.getElem?_eq_some_iff.1 hd).1
    simp [List.getD,this]
   rw [hl];refine .ep (fun k=>us.getD k undef) (by rw [eS]; exact hb hne) (by rw [eS]; exact hav hne) (fun k d hd=>?_) (fun k d hd=>(h2 k d _ hd (at_ k d hd)).2.1) (fun k d hd=>(h2 k d _ hd (at_ k d hd)).2.2);rw [sn];exact (h2 k d _ hd (at_ k d hd)).1
theorem rg {t e:TypeId} (hu:P.underlying t=some (.slice e)) {z:Nat} (hz:(Go.sizeOf e).run P w=.ok z w) (ad:Addr) {n c j:Nat} (hj:j < n) (kd:IntKind) :
   (Instr.indexAt t (.slice (some ad) n c) (.int kd (j:Int))).run P w=.ok (.pointer (some (ad.add (j * z)))) w:=by
 have h1:(0:Int)≤(j:Int)∧(j:Int) < (n:Int):=by omega
 simp [Instr.indexAt,run_underlying hu,asIntOf,hz,hj]
theorem Ev {t e:TypeId} {n:Nat} (h:eO P t (.parr n e)=true):P.underlying t=some (.array n e):=by
 unfold eO at h;split at h <;> (try (cases h; done)) <;> rename_i h1 h2 <;> (try (cases h1; done));cases h1;simp only [zAE] at h;rw [h2,zAI h.1,zAI h.2]
theorem xv {t e:TypeId} {n:Nat} (hu:P.underlying t=some (.array n e)) {z:Nat} (hz:(Go.sizeOf e).run P w=.ok z w) (ad:Addr) {j:Nat} (hj:j < n) (kd:IntKind) :
   (Instr.indexAt t (.pointer (some ad)) (.int kd (j:Int))).run P w=.ok (.pointer (some (ad.add (j * z)))) w:=by
 have h1:(0:Int)≤(j:Int)∧(j:Int) < (n:Int):=by omega
 by_cases h2:n≤1 <;> simp [Instr.indexAt,run_underlying hu,asIntOf,hz,hj,Instr.sureAddr]
theorem BN (hty:dW E) (h:R E cx tm S a w ρ) {t e:TypeId} (hu:E.P.underlying t=some (.slice e)) {te:TD} (hte:E.ty e=some te) {d:D} {v:Value} (hv:VR w (AvS cx.G S ρ) ρ d v)
   {kd:IntKind} {i:Int} {K:D→Prop} (hk:kB S d e te.size i K):∃ d' u,(Instr.indexAt t v (.int kd i)).run E.P w=.ok u w∧VR w (AvS cx.G S ρ) ρ d' u∧K d':=by
 have hz:=fK hty (w:=w) hte;have imm:∀ xs,VI w (AvS cx.G S ρ) (.sl xs) v→∀ (j:Nat) (cs:List D),i=(j:Int)→xs[j]?=some cs→cs.length=te.size→K (.ep cs)→∃ d' u,(Instr.indexAt t v (.int kd i)).run E.P w=.ok u w∧VR w (AvS cx.G S ρ) ρ d' u∧K d':=by
  intro xs hv j cs hi hj hl hK;obtain ⟨ad,n,c,rfl,hjn,hep⟩:=hv.elem hj;subst hi;refine ⟨_,_,rg hu hz ad hjn kd,?_,hK⟩;rw [← hl];exact .gr (.atom (.im hep))
 have mine:∀ (n:Nat) (u:Value) (sz:Nat) (us:List Value) (len:Nat) (j:Nat),nmv ρ n=some u→v=u→w.ownsRow 0 e sz u len us→i=(j:Int)→j < len→K (.op n te.size j 0) →
    ∃ d' u,(Instr.indexAt t v (.int kd i)).run E.P w=.ok u w∧VR w (AvS cx.G S ρ) ρ d' u∧K d':=by
  intro n u sz us len j hr hvu ho hi hj hK;subst hi hvu;rcases ho.2 with ⟨_,hn⟩|⟨g,cap,cur,rfl,_⟩
  · omega
  · refine ⟨_,_,rg hu hz _ hj kd,?_,hK⟩;rw [qv,zBK]
    have:=VA.op (w:=w) (Av:=AvS cx.G S ρ) (t:=n) (i:=j) (off:=0) (sz:=te.size) hr
    exact .gr (.atom this)
 unfold kB at hk;split at hk
 · obtain ⟨j,cs,hi,hj,hl,hK⟩:=hk;exact imm _ hv.sl_inv j cs hi hj hl hK
 · rename_i n;have hvr:=hv.own_inv;split at hk
   · rename_i e' xs hl;split at hk
     · rename_i hb;obtain ⟨j,hi,hj,hK⟩:=hk;have he:e=e':=zAI hb;subst he;obtain ⟨u,us,hr,ho,_⟩:=h.st _ _ hl
       replace hr:=dt hr (cJ ho)
       exact mine n u _ us _ j hr (by rw [hvr] at hr; exact zAb hr) ho hi hj hK
     · exact hk.elim
   · rename_i e' xs hl;split at hk
     · rename_i hb;obtain ⟨j,hi,hj,hK⟩:=hk;have he:e=e':=zAI hb;subst he;obtain ⟨u,us,hr,ho,_⟩:=h.st _ _ hl
       replace hr:=dt hr (cJ ho)
       exact mine n u _ us _ j hr (by rw [hvr] at hr; exact zAb hr) ho hi hj hK
     · exact hk.elim
   · rename_i e' e2 zs hl;split at hk
     · rename_i hb;obtain ⟨j,hi,hj,hK⟩:=hk;have he:e=e':=zAI hb;subst he;obtain ⟨u,vs,us,hd⟩:=h.st _ _ hl;have hr:=dX hd.name;exact mine n u _ us _ j hr (by rw [hvr] at hr; exact zAb hr) hd.own hi hj hK
     · exact hk.elim
   · rename_i xs hl;obtain ⟨j,cs,hi,hj,hlen,hK⟩:=hk;obtain ⟨u,hr,hvi⟩:=h.st _ _ hl;rw [hvr] at hr;cases hr;exact imm _ hvi j cs hi hj hlen hK
   · exact hk.elim
 · exact hk.elim
theorem IL (l:List UInt8) (j:Nat):(⟨l.toArray⟩:ByteArray)[j]?=l[j]?:=by
 by_cases h:j < l.length
 · have hs:j < (⟨l.toArray⟩:ByteArray).size:=by simpa [ByteArray.size] using h
   rw [ByteArray.getElem?_lt' _ _ hs,zAB h];rfl
 · have hs:¬ j < (⟨l.toArray⟩:ByteArray).size:=by simpa [ByteArray.size] using h
   rw [ByteArray.getElem?_ge' _ _ hs,List.getElem?_eq_none (by omega)]
theorem xw {t:TypeId} (hu:P.underlying t=some .string) {l:List UInt8} {j:Nat} {c:UInt8} (hj:l[j]?=some c) (kd:IntKind) :
   (Instr.index t (.string ⟨l.toArray⟩) (.int kd (j:Int))).run P w=.ok (.int .u8 (c.toNat:Int)) w:=by
 simp [Instr.index,run_underlying hu,asIntOf,IL,hj]
theorem Ey {t:TypeId} {op:BinOp} {kd:IntKind} {m n:Int} {Av:Nat→Prop} {K:D→Prop} (hk:sM op kd m n K) :
   ∃ d v,(binOp op t (.int kd m) (.int kd n)).run P w=.ok v w∧VI w Av d v∧K d:=by
 unfold sM at hk;split at hk
 · obtain ⟨r,rfl,hk⟩:=hk; exact ⟨_,_,by simp [binOp,Op.intArith],.k _ _,hk⟩
 · obtain ⟨r,rfl,hk⟩:=hk; exact ⟨_,_,by simp [binOp,Op.intArith],.k _ _,hk⟩
 · obtain ⟨r,rfl,hk⟩:=hk; exact ⟨_,_,by simp [binOp,Op.intArith],.k _ _,hk⟩
 · obtain ⟨hn,r,rfl,hk⟩:=hk; exact ⟨_,_,by simp [binOp,Op.intDiv,hn],.k _ _,hk⟩
 · obtain ⟨hn,r,rfl,hk⟩:=hk; exact ⟨_,_,by simp [binOp,Op.intDiv,hn],.k _ _,hk⟩
 · exact ⟨_,.bool (decide (m=n)),by simp only [binOp]; simp [Op.intCmp]; rfl,.b _,hk⟩
 · exact ⟨_,.bool (!decide (m=n)),by simp only [binOp]; simp [Op.intCmp]; rfl,.b _,hk⟩
 · exact ⟨_,_,by simp [binOp,Op.intCmp],.b _,hk⟩
 · exact ⟨_,_,by simp [binOp,Op.intCmp],.b _,hk⟩
 · exact ⟨_,.bool (decide (m > n)),by simp [binOp,Op.intCmp],.b _,hk⟩
 · exact ⟨_,.bool (decide (m ≥ n)),by simp [binOp,Op.intCmp],.b _,hk⟩
 · obtain ⟨r,hr,hk⟩:=hk; exact ⟨_,_,by simp [binOp,hr],.k _ _,hk⟩
 · obtain ⟨r,hr,hk⟩:=hk; exact ⟨_,_,by simp [binOp,hr],.k _ _,hk⟩
 · exact hk.elim
theorem Ez {t:TypeId} {op:BinOp} {x y:List UInt8} {Av:Nat→Prop} {K:D→Prop} (hk:sN op x y K) :
   ∃ d v,(binOp op t (.string ⟨x.toArray⟩) (.string ⟨y.toArray⟩)).run P w=.ok v w∧VI w Av d v∧K d:=by
 have hb:(x == y)=decide (x=y):=by by_cases h:x=y <;> simp [h]
 unfold sN at hk;split at hk
 · obtain ⟨hl,hk⟩:=hk;refine ⟨_,_,?_,.s _,hk⟩;rw [binOp_string_add,run_string_add_sum _ _ _ (by simpa [ByteArray.size] using hl),ByteArray.mk_append_mk]
 · exact ⟨_,_,by simp only [binOp_string_eql,ByteArray.toList_mk,hb,Sem.run_pure],.b _,hk⟩
 · exact ⟨_,_,by simp only [binOp_string_neq,ByteArray.toList_mk,hb,Sem.run_pure],.b _,hk⟩
 · exact ⟨_,_,by simp only [binOp_string_lss,ByteArray.toList_mk,Sem.run_pure],.b _,hk⟩
 · exact ⟨_,_,by simp [binOp,Op.stringOp,hb],.b _,hk⟩
 · exact ⟨_,_,by simp only [binOp,Op.stringOp,ByteArray.toList_mk,hb,Sem.run_pure],.b _,hk⟩
 · exact ⟨_,_,by simp only [binOp,Op.stringOp,ByteArray.toList_mk,Sem.run_pure],.b _,hk⟩
 · exact hk.elim
theorem BP {t:TypeId} (hu:P.underlying t=some .bool) {op:BinOp} {x y:Bool} {Av:Nat→Prop} {K:D→Prop} (hk:nb op x y K) :
   ∃ d v,(binOp op t (.bool x) (.bool y)).run P w=.ok v w∧VI w Av d v∧K d:=by
 unfold nb at hk;split at hk
 · exact ⟨_,_,by simp [binOp,Op.equal,Op.maxDepth,run_equalIn_bool' w _ t x y hu],.b _,hk⟩
 · exact ⟨_,_,by simp [binOp,Op.equal,Op.maxDepth,run_equalIn_bool' w _ t x y hu],.b _,hk⟩
 · exact hk.elim
end
end Go.Ab
namespace Go.Ab
open Go Go.RowKit
section
variable {E:Env} {cx:Cx} {tm:Tm} {S:ac} {nx:Nat} {a:Act} {w:World} {ρ:Nat→Option Value} {o:Oper} {K:Kt}
def aK (ρ:Nat→Option Value) (n:Nat) (v:Value):Nat→Option Value:=fun t=>if t=n then some v else ρ t
theorem aw (n:Nat) (v:Value):aK ρ n v n=some v:=by simp [aK]
theorem aL {n m:Nat} (v:Value) (h:m≠n):aK ρ n v m=ρ m:=by simp [aK,h]
theorem R.make (h:R E cx tm S a w ρ) (hn:ρ nx=none) {b:Blk} {v:Value} {w':World} (hf:Fr (fun _=>False) w w') (hb:∀ x,bk b (some v) x→w.heap.size≤x)
   (hs:(∀ d u,VI w (AvS cx.G S ρ) d u→VI w' (AvS cx.G (ap [(nx,some b)] S) (aK ρ nx v)) d u)→(∀ t u,ρ t=some u→aK ρ nx v t=some u) →
     SR E.P w' (AvS cx.G (ap [(nx,some b)] S) (aK ρ nx v)) (aK ρ nx v) nx b) :
   R E cx tm (ap [(nx,some b)] S) a w' (aK ρ nx v):=by
 have ext:∀ t u,ρ t=some u→aK ρ nx v t=some u:=by
  intro t u ht
  have:t≠nx:=by rintro rfl; rw [hn] at ht; cases ht
  rw [aL v this]; exact ht
 have lo:∀ m c,lk [(nx,some b)] m=some c→m=nx∧c=some b:=by
  intro m c hm;rw [au] at hm;by_cases e:nx=m
  · rw [if_pos e] at hm; cases hm; exact ⟨e.symm,rfl⟩
  · rw [if_neg e] at hm; simp [lk] at hm
 refine h.turn ⟨hf.weaken fun _ h=>h.elim,ext,fun m c hm hv x hx=>?_,fun m m' c c' x h1 h2 _ _ _ _=>?_,fun hi m c hm=>?_⟩
 · obtain ⟨rfl,e⟩:=lo m _ hm;cases e;rw [aw] at hx;exact .inl (hb x hx)
 · rw [(lo m _ h1).1,(lo m' _ h2).1]
 · obtain ⟨rfl,e⟩:=lo m _ hm;cases e;exact hs hi ext
theorem iR (w:World) (o:Obj):Fr (fun _=>False) w (w.alloc o):=⟨rfl,rfl,rfl,by simp,fun k hk _=>Below.heap_alloc w o k hk⟩
theorem R.box (h:R E cx tm S a w ρ) (hn:ρ nx=none) (e:TypeId) {cs:List D} {us:List Value} (hc:Cs w (AvS cx.G S ρ) ρ cs us) :
   R E cx tm (ap [(nx,some (.box e cs))] S) a (w.alloc (.cells us.toArray e)) (aK ρ nx (.pointer (some ⟨w.heap.size,0,none⟩))) ∧
     VR (w.alloc (.cells us.toArray e)) (AvS cx.G (ap [(nx,some (.box e cs))] S) (aK ρ nx (.pointer (some ⟨w.heap.size,0,none⟩)))) (aK ρ nx (.pointer (some ⟨w.heap.size,0,none⟩))) (.bp nx 0) (.pointer (some ⟨w.heap.size,0,none⟩)):=by
 refine ⟨h.make hn (iR w _) (by intro x hx; simp [bk,be] at hx; omega) (fun hi hr=>?_),.gr (.atom (.bp (aw _ _)))⟩;exact ⟨w.heap.size,us,aw _ _,heap_alloc_new w _,hc.len,hc.one,fun i d u p q=>(hc.at_ i d u p q).mono hi hr⟩
theorem R.own (h:R E cx tm S a w ρ) (hn:ρ nx=none) {e:TypeId} {xs:List (List D)} {us:List Value} (hr:Rows (VI w (AvS cx.G S ρ)) (E.P.cellsOf e) xs us) {u:Value} {w':World}
   (hf:Fr (fun _=>False) w w') (ho:w'.ownsRow w.heap.size e (E.P.cellsOf e) u xs.length us) :
   R E cx tm (ap [(nx,some (.own e xs))] S) a w' (aK ρ nx u)∧VR w' (AvS cx.G (ap [(nx,some (.own e xs))] S) (aK ρ nx u)) (aK ρ nx u) (.own nx) u:=by
 have ho':w'.ownsRow 0 e (E.P.cellsOf e) u xs.length us:=by
  refine ⟨ho.1,?_⟩;rcases ho.2 with h1|⟨g,cap,cur,h1,_,h2⟩
  · exact .inl h1
  · exact .inr ⟨g,cap,cur,h1,zAG _,h2⟩
 have h1:u.oneCell'=true:=by rcases ho.2 with ⟨rfl,_⟩|⟨g,cap,cur,rfl,_⟩ <;> rfl
 have hb:∀ x,be u=some x→w.heap.size≤x:=by
  intro x hx;rcases ho.2 with ⟨rfl,_⟩|⟨g,cap,cur,rfl,hg,_⟩
  · simp [be] at hx
  · simp [be] at hx; omega
 exact ⟨h.make hn hf hb fun hi hr'=>⟨u,us,aw _ _,ho',hr.mono hi⟩,.gr (.atom (.own (dt (aw _ _) (cJ ho)) h1))⟩
theorem qz {n m:Nat} {o:Option Blk} (h:lk [(n,o)] m≠none):m=n:=by
 rw [au] at h;by_cases e:n=m
 · exact e.symm
 · rw [if_neg e] at h; simp [lk] at h
theorem iz {n:Nat} {b:Blk} {S:ac} (m:Nat):lk ((n,b) :: S) m=lk (ap [(n,some b)] S) m:=by
 rw [cl,au,au];by_cases e:n=m
 · simp [e]
 · simp [e,lk]
theorem Ok1.one {b:Blk} {d:D} (hk:K (fpN nx) (put o.dst d tm) ((nx,b) :: S) (nx+1))
   (hs:∀ (cx:Cx) (tm':Tm) (S':ac) (a:Act) (w:World) (ρ:Nat→Option Value),(∀ x∈o.op.operands,ev E.gl tm' x=ev E.gl tm x)→R E cx tm' S' a w ρ→ρ nx=none →
     ∃ v w' u,(execOp a.eval o).run E.P w=.ok (.value v) w'∧R E cx tm' (ap [(nx,some b)] S') a w' (aK ρ nx u)∧VR w' (AvS cx.G (ap [(nx,some b)] S') (aK ρ nx u)) (aK ρ nx u) d v):Ok1 E o tm S nx K:=by
 refine Ok1.val (fp:=fpN nx) (out:=[(nx,some b)]) (nx':=nx+1) (d:=d) (fun n h=>by simp [fpN,qz h]) (fun n h=>h) (Nat.le_succ _) (fun n h1 h2=>by simp [fpN]; omega) (fun n=>iz n) hk ?_;intro cx tm' S' a w ρ he hf h hn;obtain ⟨v,w',u,e1,e2,e3⟩:=hs cx tm' S' a w ρ he h (hn nx (zAL _) (Nat.lt_succ_self _));exact ⟨v,w',_,e1,e2,e3,fun n hne=>aL u (by rintro rfl; exact hne ⟨zAL _,Nat.lt_succ_self _⟩)⟩
theorem pm {x:Operand} (ho:o.op=.move x∨o.op=.assign x) {d:D} (hx:ev E.gl tm x=some d) (hk:K fp0 (put o.dst d tm) S nx):Ok1 E o tm S nx K:=by
 refine Ok1.pure (fp:=[]) hk fun cx tm' S' a w ρ he _ h=>⟨a.eval x,?_,h.eval ((he x ?_).trans hx)⟩
 · rcases ho with ho|ho <;> simp [execOp,ho]
 · rcases ho with ho|ho <;> simp [ho,Op.operands]
theorem IM {x:Operand} (ho:o.op=.assign x) (hx:ev E.gl tm x=some .nil) {e:TypeId}
   (hk:K (fpN nx) (put o.dst (.own nx) tm) ((nx,.own e []) :: S) (nx+1)):Ok1 E o tm S nx K:=by
 refine Ok1.one hk fun cx tm' S' a w ρ he h hn=>?_;have hv:a.eval x=.slice none 0 0:=(h.eval ((he x (by simp [ho,Op.operands])).trans hx)).nil_inv;obtain ⟨h',hv'⟩:=h.own hn (e:=e) (xs:=[]) (us:=[]) (u:=.slice none 0 0) (w':=w) ⟨by simp,by simp,by simp,by simp⟩ (Fr.refl _ w) (World.ownsRow_nil _ _ _ _);exact ⟨_,_,_,by simp [execOp,ho,hv],h',hv'⟩
theorem DJ {c x y:Operand} (ho:o.op=.pick c x y) {z:Bool} (hc:ev E.gl tm c=some (.b z)) {d:D} (hx:ev E.gl tm (if z then x else y)=some d) (hk:K fp0 (put o.dst d tm) S nx):Ok1 E o tm S nx K:=by
 refine Ok1.pure (fp:=[]) hk fun cx tm' S' a w ρ he _ h=>?_;have hv:=(h.eval ((he c (by simp [ho,Op.operands])).trans hc)).b_inv;refine ⟨a.eval (if z then x else y),?_,h.eval ((he _ ?_).trans hx)⟩
 · cases z <;> simp [execOp,ho,hv,asBool]
 · cases z <;> simp [ho,Op.operands]
theorem oBx {e:TypeId} {x:Operand} (ho:o.op=.box e x) {d:D} (hx:ev E.gl tm x=some d) (ht:sK d=false)
   (hk:K (fpN nx) (put o.dst (.bp nx 0) tm) ((nx,.box e (cellsOf d)) :: S) (nx+1)):Ok1 E o tm S nx K:=by
 refine Ok1.one hk fun cx tm' S' a w ρ he h hn=>?_;have hc:=((h.eval ((he x (by simp [ho,Op.operands])).trans hx)).vg ht).cells;obtain ⟨h',hv'⟩:=h.box hn e hc;exact ⟨_,_,_,by simp [execOp,ho,Instr.box,newVar,newRow],h',hv'⟩
theorem F8 (hty:dW E) {e:TypeId} (ho:o.op=.alloc e) {td:TD} (ht:E.ty e=some td)
   (hk:K (fpN nx) (put o.dst (.bp nx 0) tm) ((nx,.box e (cellsOf td.zero)) :: S) (nx+1)):Ok1 E o tm S nx K:=by
 refine Ok1.one hk fun cx tm' S' a w ρ he h hn=>?_;obtain ⟨v,hz,hc⟩:=zr hty (w:=w) ht;obtain ⟨h',hv'⟩:=h.box hn e (dn (w:=w) (Av:=AvS cx.G S' ρ) (ρ:=ρ) hc).1;exact ⟨_,_,_,by simp [execOp,ho,Instr.alloc,hz,newVar,newRow],h',hv'⟩
theorem zx {S':ac} {d:D} {td:TD} {K:D→Prop} (hf:∀ n∈nmD d,lk S' n=lk S n) (hk:jM E S d td K):jM E S' d td K:=by
 unfold jM at hk ⊢;cases d with
 | bp n off=>simp only at hk ⊢; rw [hf n (by simp [nmD,nmA])]; exact hk
 | op n sz i off=>simp only at hk ⊢; rw [hf n (by simp [nmD,nmA])]; exact hk
 | ep cs=>exact hk
 | _=>exact hk
theorem xx {S':ac} {d:D} {e:TypeId} {z:Nat} {i:Int} {K:D→Prop} (hf:∀ n∈nmD d,lk S' n=lk S n) (hk:kB S d e z i K):kB S' d e z i K:=by
 unfold kB at hk ⊢;cases d with
 | own n=>simp only at hk ⊢; rw [hf n (by simp [nmD,nmA])]; exact hk
 | sl xs=>exact hk
 | _=>exact hk
theorem BQ {S':ac} {kd:TK} {d:D} {K:Int→Prop} (hf:∀ n∈nmD d,lk S' n=lk S n) (hk:zn kd S d K):zn kd S' d K:=by
 unfold zn at hk ⊢;cases kd with
 | slice e=>
   cases d with
   | own n=>simp only at hk ⊢; rw [hf n (by simp [nmD,nmA])]; exact hk
   | _=>exact hk
 | _=>exact hk
theorem sZ {td:TD} {cs:List D} {K:D→Prop} (h:iO td cs K):∃ d,(∀ K':D→Prop,K' d→iO td cs K')∧K d:=by
 unfold iO at h ⊢;split at h
 · split at h
   · exact ⟨_,fun K' h=>by simpa using h,h⟩
   · exact h.elim
 · split at h
   · exact ⟨_,fun K' h=>by simpa using h,h⟩
   · exact h.elim
theorem IP {e:TypeId} {sz:Nat} {K:Prop} (h:szK E e sz K):(∀ K':Prop,K'→szK E e sz K')∧K:=by
 obtain ⟨te,h1,h2,h3⟩:=sq h;refine ⟨fun K' h=>?_,h3⟩;unfold szK;rw [h1];simp only [h2,zBI];exact h
theorem F9 {d:D} {td:TD} {K:D→Prop} (h:jM E S d td K):∃ d',(∀ K':D→Prop,K' d'→jM E S d td K')∧K d':=by
 unfold jM at h ⊢;cases d with
 | bp n off=>
   simp only at h ⊢;cases hl:lk S n with
   | none=>rw [hl] at h; exact h.elim
   | some b=>rw [hl] at h; cases b <;> first|exact sZ h|exact h.elim
 | ep cs=>exact sZ h
 | op n sz i off=>
   simp only at h ⊢;have key:∀ (e:TypeId) (xs:List (List D)),szK E e sz (∃ cs,xs[i]?=some cs∧iO td (cs.drop off) K)→∃ d',(∀ K':D→Prop,K' d'→szK E e sz (∃ cs,xs[i]?=some cs∧iO td (cs.drop off) K'))∧K d':=by
    intro e xs h;obtain ⟨h1,cs,h2,h3⟩:=IP h;obtain ⟨d',h4,h5⟩:=sZ h3;exact ⟨d',fun K' hK=>h1 _ ⟨cs,h2,h4 K' hK⟩,h5⟩
   cases hl:lk S n with
   | none=>rw [hl] at h; exact h.elim
   | some b=>rw [hl] at h; cases b <;> first|exact key _ _ h|exact h.elim
 | _=>exact h.elim
theorem EA {d:D} {e:TypeId} {z:Nat} {i:Int} {K:D→Prop} (h:kB S d e z i K):∃ d',(∀ K':D→Prop,K' d'→kB S d e z i K')∧K d':=by
 unfold kB at h ⊢;cases d with
 | sl xs=>obtain ⟨j,cs,h1,h2,h3,h4⟩:=h; exact ⟨_,fun K' hK=>⟨j,cs,h1,h2,h3,hK⟩,h4⟩
 | own n=>
   simp only at h ⊢;cases hl:lk S n with
   | none=>rw [hl] at h; exact h.elim
   | some b=>
     rw [hl] at h;cases b with
     | box=>exact h.elim
     | fr xs=>obtain ⟨j,cs,h1,h2,h3,h4⟩:=h; exact ⟨_,fun K' hK=>⟨j,cs,h1,h2,h3,hK⟩,h4⟩
     | own e' xs=>
       simp only at h ⊢;cases hb:Nat.beq e e' with
       | true=>rw [hb] at h; obtain ⟨j,h1,h2,h3⟩:=h; exact ⟨_,fun K' hK=>⟨j,h1,h2,hK⟩,h3⟩
       | false=>rw [hb] at h; exact h.elim
     | row e' xs=>
       simp only at h ⊢;cases hb:Nat.beq e e' with
       | true=>rw [hb] at h; obtain ⟨j,h1,h2,h3⟩:=h; exact ⟨_,fun K' hK=>⟨j,h1,h2,hK⟩,h3⟩
       | false=>rw [hb] at h; exact h.elim
     | deep e' e2 xs=>
       simp only at h ⊢;cases hb:Nat.beq e e' with
       | true=>rw [hb] at h; obtain ⟨j,h1,h2,h3⟩:=h; exact ⟨_,fun K' hK=>⟨j,h1,h2,hK⟩,h3⟩
       | false=>rw [hb] at h; exact h.elim
 | _=>exact h.elim
theorem EB {pl:List (Nat × Nat)} {i:Nat} {d:D} {K:D→Prop} (h:og pl i d K):∃ d',(∀ K':D→Prop,K' d'→og pl i d K')∧K d':=by
 unfold og at h ⊢;cases hp:pl[i]? with
 | none=>rw [hp] at h; exact h.elim
 | some p=>
   obtain ⟨o,z⟩:=p;rw [hp] at h;simp only at h ⊢;cases hz:Nat.blt 0 z with
   | false=>rw [hz] at h; exact h.elim
   | true=>rw [hz] at h; cases d <;> first|exact ⟨_,fun _ h=>h,h⟩|exact h.elim
theorem HF (hty:dW E) {t:TypeId} {x:Operand} (ho:o.op=.load t x) {d:D} (hx:ev E.gl tm x=some d) {td:TD} (ht:E.ty t=some td)
   (hk:jM E S d td fun d'=>K (fpR d) (put o.dst d' tm) S nx):Ok1 E o tm S nx K:=by
 obtain ⟨d',h1,h2⟩:=F9 hk;refine Ok1.pure (fp:=nmD d) h2 fun cx tm' S' a w ρ he hf h=>?_;obtain ⟨d2,u,hrun,hg,rfl⟩:=vT hty h ht (h.eval ((he x (by simp [ho,Op.operands])).trans hx)) (zx hf (h1 (fun x=>x=d') rfl));exact ⟨u,by simp [execOp,ho,hrun],.gr hg⟩
theorem xy (hty:dW E) {t:TypeId} {x:Operand} {f:Nat} (ho:o.op=.fieldAddr t x f) {d:D} (hx:ev E.gl tm x=some d) {td:TD} (ht:E.ty t=some td) {pl:List (Nat × Nat)} (hp:td.kind=.struct pl)
   (hk:og pl f d fun d'=>K fp0 (put o.dst d' tm) S nx):Ok1 E o tm S nx K:=by
 obtain ⟨d',h1,h2⟩:=EB hk;refine Ok1.pure (fp:=[]) h2 fun cx tm' S' a w ρ he hf h=>?_;have hkc:=hty.kind ht;rw [hp] at hkc;obtain ⟨d2,u,hrun,hg,rfl⟩:=BM h hkc (h.eval ((he x (by simp [ho,Op.operands])).trans hx)) (h1 (fun x=>x=d') rfl);exact ⟨u,by simp [execOp,ho,hrun],hg⟩
theorem xz (hty:dW E) {t:TypeId} {x i:Operand} (ho:o.op=.indexAddr t x i) {d:D} (hx:ev E.gl tm x=some d) {kd:IntKind} {n:Int} (hi:ev E.gl tm i=some (.k kd n)) {td te:TD} {e:TypeId} (ht:E.ty t=some td) (hp:td.kind=.slice e) (hte:E.ty e=some te)
   (hk:kB S d e te.size n fun d'=>K (fpR d) (put o.dst d' tm) S nx):Ok1 E o tm S nx K:=by
 obtain ⟨d',h1,h2⟩:=EA hk;refine Ok1.pure (fp:=nmD d) h2 fun cx tm' S' a w ρ he hf h=>?_;have hkc:=hty.kind ht;rw [hp] at hkc;obtain ⟨d2,u,hrun,hg,rfl⟩:=BN hty h (ci hkc) hte (h.eval ((he x (by simp [ho,Op.operands])).trans hx)) (kd:=kd) (xx hf (h1 (fun x=>x=d') rfl));have hiv:=(h.eval ((he i (by simp [ho,Op.operands])).trans hi)).k_inv;exact ⟨u,by simp [execOp,ho,hiv,hrun],hg⟩
theorem zy (hty:dW E) {t:TypeId} {x i:Operand} (ho:o.op=.indexAddr t x i) {cs:List D} (hx:ev E.gl tm x=some (.ep cs)) {kd:IntKind} {j:Nat} (hi:ev E.gl tm i=some (.k kd (j:Int))) {td te:TD} {e:TypeId} {m:Nat} (ht:E.ty t=some td) (hp:td.kind=.parr m e) (hte:E.ty e=some te)
   (hz:te.size=1) (hj:j < m) {c:D} (hc:cs[j]?=some c) (hk:K fp0 (put o.dst (.ep [c]) tm) S nx):Ok1 E o tm S nx K:=by
 refine Ok1.pure (fp:=[]) hk fun cx tm' S' a w ρ he hf h=>?_;have hkc:=hty.kind ht;rw [hp] at hkc;obtain ⟨ad,hv,hb,hav,hcell⟩:=(h.eval ((he x (by simp [ho,Op.operands])).trans hx)).ep_inv.ep_inv;have hiv:=(h.eval ((he i (by simp [ho,Op.operands])).trans hi)).k_inv;have hrun:=xv (Ev hkc) (fK hty (w:=w) hte) ad hj kd;rw [hz,Nat.mul_one] at hrun;refine ⟨.pointer (some (ad.add j)),by simp [execOp,ho,hiv,hv,hrun],?_⟩;obtain ⟨u,e1,e2,e3⟩:=hcell j c hc;refine .gr (.atom (.im (.ep (fun _=>u) (by rw [eS]; exact hb) (by rw [eS]; exact hav) (fun k d hd=>?_) (fun k d hd=>e2) (fun k d hd=>?_))))
 · cases k with
   | zero=>exact e1
   | succ k=>simp at hd
 · cases k with
   | zero=>simp at hd; subst hd; exact e3
   | succ k=>simp at hd
theorem Ga (hty:dW E) {t:TypeId} {x i:Operand} (ho:o.op=.index t x i) {l:List UInt8} (hx:ev E.gl tm x=some (.s l)) {kd:IntKind} {j:Nat} (hi:ev E.gl tm i=some (.k kd (j:Int))) {td:TD} (ht:E.ty t=some td) (hp:td.kind=.str)
   {c:UInt8} (hc:l[j]?=some c) (hk:K fp0 (put o.dst (.k .u8 (c.toNat:Int)) tm) S nx):Ok1 E o tm S nx K:=by
 refine Ok1.pure (fp:=[]) hk fun cx tm' S' a w ρ he hf h=>?_;have hkc:=hty.kind ht;rw [hp] at hkc;have hv:=(h.eval ((he x (by simp [ho,Op.operands])).trans hx)).s_inv;have hiv:=(h.eval ((he i (by simp [ho,Op.operands])).trans hi)).k_inv;exact ⟨_,by simp [execOp,ho,hiv,hv,xw (jO hkc) hc],.gr (.atom (.im (.k _ _)))⟩
end
end Go.Ab
namespace Go.Ab
open Go Go.RowKit
section
variable {P:Program} {w:World}
theorem s0 {Av:Nat→Prop} {ρ:Nat→Option Value} {c:Nat} {d e:D} {u v:Value} {x:Bool} (h:eqA c d e=some x) (hu:VA w Av ρ d u) (hv:VA w Av ρ e v) :
   (c=0∧∃ a b,u=.bool a∧v=.bool b∧x=(a == b))∨(c=1∧∃ k m n,u=.int k m∧v=.int k n∧x=(m == n))∨(c=2∧∃ s t:ByteArray,u=.string s∧v=.string t∧x=(s.toList == t.toList)):=by
 unfold eqA at h;split at h
 · cases h;cases hu with|im hu=>cases hv with|im hv=>cases hu; cases hv; exact .inl ⟨rfl,_,_,rfl,rfl,rfl⟩
 · split at h
   · rename_i hk;cases h
     have:=of_decide_eq_true hk
     subst this;cases hu with|im hu=>cases hv with|im hv=>cases hu; cases hv; exact .inr (.inl ⟨rfl,_,_,_,rfl,rfl,rfl⟩)
   · cases h
 · cases h;cases hu with|im hu=>cases hv with|im hv=>
    cases hu; cases hv;refine .inr (.inr ⟨rfl,_,_,rfl,rfl,?_⟩);rw [ByteArray.toList_mk,ByteArray.toList_mk];rename_i l l';by_cases e:l=l' <;> simp [e]
 · cases h
theorem rh:∀ {c1 c2:List Nat} {ds es:List D} {x:Bool},iP (c1++c2) ds es=some x→∃ x1 x2,iP c1 (ds.take c1.length) (es.take c1.length)=some x1∧iP c2 (ds.drop c1.length) (es.drop c1.length)=some x2∧x=(x1 && x2)∧ds.length=c1.length+c2.length∧es.length=c1.length+c2.length
 | [],c2,ds,es,x,h=>by
   have hl:∀ (c:List Nat) (ds es:List D) (x:Bool),iP c ds es=some x→ds.length=c.length∧es.length=c.length:=by
    intro c
    induction c with
    | nil=>intro ds es x h; cases ds <;> cases es <;> simp [iP] at h ⊢
    | cons a r ih=>
      intro ds es x h;cases ds with
      | nil=>cases es <;> simp [iP] at h
      | cons d ds=>
        cases es with
        | nil=>simp [iP] at h
        | cons e es=>
          simp only [iP] at h;split at h
          · split at h
            · rename_i h2
              have:=ih _ _ _ h2
              simp [this.1,this.2]
            · cases h
          · cases h
   have:=hl c2 ds es x h
   exact ⟨true,x,rfl,by simpa using h,by simp,by simp [this.1],by simp [this.2]⟩
 | a :: c1,c2,[],es,x,h=>by cases es <;> simp [iP] at h
 | a :: c1,c2,d :: ds,[],x,h=>by simp [iP] at h
 | a :: c1,c2,d :: ds,e :: es,x,h=>by
   simp only [zAh,iP] at h;split at h
   · rename_i e1 he1;split at h
     · rename_i e2 he2;cases h;obtain ⟨x1,x2,h1,h2,h3,h4,h5⟩:=rh he2;refine ⟨e1 && x1,x2,?_,h2,by rw [h3,Bool.and_assoc],by simp [h4]; omega,by simp [h5]; omega⟩;simp [iP,he1,h1]
     · cases h
   · cases h
def pv (P:Program) (t:TypeId) (us:List Value):Value:=
 match P.underlying t with
 | some (.struct _)=>.agg us.toArray
 | _=>us.headD undef
theorem zz {t:TypeId} {n off:Nat} (hz:P.cellsOf t=n) (hn:0 < n) {us:List Value} (hl:off+n≤us.length) (hna:∀ m e,P.underlying t≠some (.array m e)) (hs:∃ d,P.underlying t=some d) :
   (part t us.toArray off).run P w=.ok (pv P t ((us.drop off).take n)) w:=by
 obtain ⟨d,hd⟩:=hs;have hsz:=pk hz hn w;have hlt:off < us.length:=by omega
 have head:((us.drop off).take n).headD undef=us[off]:=by
  cases n with
  | zero=>omega
  | succ n=>rw [List.drop_eq_getElem_cons hlt]; rfl
 unfold part pv;rw [hd];cases d <;> first
  | (exact absurd hd (hna _ _))
  | (simp only [Sem.run_bind,isAgg,run_underlying hd,Result.andThen_ok,Sem.run_pure,hsz,if_true]
     congr 2
     apply zBY;simp [List.extract_eq_take_drop])
  | (simp only [head]; simp [Sem.run_bind,isAgg,run_underlying hd,Result.andThen_ok,Sem.run_pure,hlt]; done)
theorem zA {d:Nat} {t:TypeId} {c:List Nat} (h:iM P d t=some c):(∀ m e,P.underlying t≠some (.array m e))∧(∃ d,P.underlying t=some d):=by
 cases d with
 | zero=>simp [iM] at h
 | succ d=>
   unfold iM at h;split at h
   · rename_i hu; exact ⟨fun m e h=>by (rw [hu] at h; cases h),_,hu⟩
   · rename_i hu; exact ⟨fun m e h=>by (rw [hu] at h; cases h),_,hu⟩
   · rename_i hu; exact ⟨fun m e h=>by (rw [hu] at h; cases h),_,hu⟩
   · rename_i hu; exact ⟨fun m e h=>by (rw [hu] at h; cases h),_,hu⟩
   · cases h
theorem vb {Av:Nat→Prop} {ρ:Nat→Option Value}:∀ (d:Nat) (t:TypeId) (c:List Nat) (k:Nat) (ds es:List D) (us vs:List Value) (x:Bool),iM P d t=some c→ds.length=us.length→es.length=vs.length →
   (∀ (i:Nat) (d:D) (u:Value),ds[i]?=some d→us[i]?=some u→VA w Av ρ d u)→(∀ (i:Nat) (d:D) (u:Value),es[i]?=some d→vs[i]?=some u→VA w Av ρ d u) →
   iP c ds es=some x→(Op.equalIn (d+k) t (pv P t us) (pv P t vs)).run P w=.ok x w:=by
 intro d
 induction d with
 | zero=>intro t c k ds es us vs x h; simp [iM] at h
 | succ d ih=>
   intro t c k ds es us vs x h hl1 hl2 hr1 hr2 hx;have hdk:d+1+k=(d+k)+1:=by omega
   rw [hdk];have scal:∀ a,c=[a]→∃ d1 e1 u1 v1,ds=[d1]∧es=[e1]∧us=[u1]∧vs=[v1]∧eqA a d1 e1=some x∧VA w Av ρ d1 u1∧VA w Av ρ e1 v1:=by
    intro a hc;subst hc
    match ds,es,us,vs,hl1,hl2,hr1,hr2,hx with
    | [],[],_,_,_,_,_,_,hx=>simp [iP] at hx
    | [],_ :: _,_,_,_,_,_,_,hx=>simp [iP] at hx
    | _ :: _,[],_,_,_,_,_,_,hx=>simp [iP] at hx
    | [d1],[e1],[u1],[v1],_,_,hr1,hr2,hx=>
      simp only [iP] at hx;split at hx
      · rename_i y hy;simp at hx;subst hx;exact ⟨d1,e1,u1,v1,rfl,rfl,rfl,rfl,hy,hr1 0 d1 u1 rfl rfl,hr2 0 e1 v1 rfl rfl⟩
      · cases hx
    | [_],[_],[],_,hl,_,_,_,_=>simp at hl
    | [_],[_],_ :: _ :: _,_,hl,_,_,_,_=>simp at hl
    | [_],[_],[_],[],_,hl,_,_,_=>simp at hl
    | [_],[_],[_],_ :: _ :: _,_,hl,_,_,_=>simp at hl
    | _ :: _ :: _,[_],_,_,_,_,_,_,hx=>simp only [iP] at hx; split at hx <;> cases hx
    | [_],_ :: _ :: _,_,_,_,_,_,_,hx=>simp only [iP] at hx; split at hx <;> cases hx
    | _ :: _ :: _,_ :: _ :: _,_,_,_,_,_,_,hx=>simp only [iP] at hx; split at hx <;> cases hx
   unfold iM at h;split at h
   · rename_i hu;split at h
     · cases h;obtain ⟨d1,e1,u1,v1,rfl,rfl,rfl,rfl,h1,h2,h3⟩:=scal 2 rfl;rcases s0 h1 h2 h3 with ⟨e,_⟩|⟨e,_⟩|⟨_,s,s',rfl,rfl,rfl⟩
       · cases e
       · cases e
       · simp only [pv,hu,List.headD_cons];exact run_equalIn_string w _ t s s' hu
     · cases h
   · rename_i hu;split at h
     · cases h;obtain ⟨d1,e1,u1,v1,rfl,rfl,rfl,rfl,h1,h2,h3⟩:=scal 0 rfl;rcases s0 h1 h2 h3 with ⟨_,a,b,rfl,rfl,rfl⟩|⟨e,_⟩|⟨e,_⟩
       · simp only [pv,hu,List.headD_cons];exact run_equalIn_bool' w _ t a b hu
       · cases e
       · cases e
     · cases h
   · rename_i kd hu;split at h
     · cases h;obtain ⟨d1,e1,u1,v1,rfl,rfl,rfl,rfl,h1,h2,h3⟩:=scal 1 rfl;rcases s0 h1 h2 h3 with ⟨e,_⟩|⟨_,k',m,n,rfl,rfl,rfl⟩|⟨e,_⟩
       · cases e
       · simp only [pv,hu,List.headD_cons];simp [Op.equalIn,run_underlying hu]
       · cases e
     · cases h
   · rename_i fs hu;split at h
     · cases h
     · rename_i hp;have hfo:P.fieldsOf t=fs:=by simp [Program.fieldsOf,hu]
       simp only [pv,hu];rw [run_equalIn_struct w _ t _ _ (by rw [hfo]; exact hu) (by simpa using hp),hfo];have key:∀ (fs:List Field) (off:Nat) (c:List Nat) (x:Bool),eqFields P (iM P d) fs off (P.cellsOf t)=some c→iP c (ds.drop off) (es.drop off)=some x →
          (Op.eqFields (d+k) us.toArray vs.toArray fs).run P w=.ok x w:=by
        intro fs
        induction fs with
        | nil=>
          intro off c x h hx;simp only [eqFields] at h;split at h
          · cases h;cases hd:ds.drop off with
            | nil=>
              cases he:es.drop off with
              | nil=>rw [hd,he] at hx; simp [iP] at hx; subst hx; simp [Op.eqFields]
              | cons=>rw [hd,he] at hx; simp [iP] at hx
            | cons=>rw [hd] at hx; cases he:es.drop off <;> rw [he] at hx <;> simp [iP] at hx
          · cases h
        | cons f r ihf=>
          intro off c x h hx;simp only [eqFields] at h;split at h
          · rename_i c1 hb hc1;simp only [zAE] at hb;obtain ⟨⟨hn,ho⟩,hpos⟩:=hb;split at h
            · rename_i c2 hc2;split at h
              · rename_i hlen;cases h;have hlen:=zAI hlen;have ho:=zAI ho;have hpos:0 < P.cellsOf f.type:=zAC hpos;obtain ⟨x1,x2,h1,h2,h3,h4,h5⟩:=rh hx;have hnm : f.name ≠ "_" := by simpa using hn
                have hu1:=zA hc1;rw [hlen] at h1 h2;simp only [zAy] at h4 h5;have p1:=zz (w:=w) rfl hpos (us:=us) (off:=off) (by rw [← hl1]; omega) hu1.1 hu1.2;have p2:=zz (w:=w) rfl hpos (us:=vs) (off:=off) (by rw [← hl2]; omega) hu1.1 hu1.2;have cut:∀ (ds:List D) (us:List Value),ds.length=us.length→(∀ (i:Nat) (d:D) (u:Value),ds[i]?=some d→us[i]?=some u→VA w Av ρ d u) →
                   ((ds.drop off).take (P.cellsOf f.type)).length=((us.drop off).take (P.cellsOf f.type)).length∧∀ (i:Nat) (d:D) (u:Value),((ds.drop off).take (P.cellsOf f.type))[i]?=some d→((us.drop off).take (P.cellsOf f.type))[i]?=some u→VA w Av ρ d u:=by
                 intro ds us hl hr;refine ⟨by simp [hl],fun i d u a b=>?_⟩;rw [zAn] at a b;split at a
                 · rename_i hi;rw [if_pos hi] at b;rw [zAi] at a b;exact hr _ d u a b
                 · cases a
                obtain ⟨q1,q2⟩:=cut ds us hl1 hr1;obtain ⟨q3,q4⟩:=cut es vs hl2 hr2;have heq:=ih f.type c1 k _ _ _ _ x1 hc1 q1 q3 q2 q4 h1;have hrest:=ihf (off+P.cellsOf f.type) c2 x2 hc2 (by simpa [zBb] using h2);rw [Op.eqFields,if_pos hnm,ho];simp only [Sem.run_bind,p1,p2,Result.andThen_ok,heq];subst h3;cases x1
                · simp
                · simpa using hrest
              · cases h
            · cases h
          · cases h
       exact key fs.toList 0 c x h (by simpa using hx)
   · cases h
end
section
variable {E:Env} {tm:Tm} {S:ac} {nx:Nat} {o:Oper} {K:Kt}
theorem VR.agg_inv {w:World} {Av:Nat→Prop} {ρ:Nat→Option Value} {ds:List D} {v:Value} (h:VR w Av ρ (.agg ds) v):∃ us:List Value,v=.agg us.toArray∧ds.length=us.length∧(∀ u∈us,u.oneCell'=true)∧∀ (i:Nat) (d:D) (u:Value),ds[i]?=some d→us[i]?=some u→VA w Av ρ d u:=by
 cases h with
 | gr h=>
   cases h with
   | atom h=>cases h with|im h=>cases h with|agg hl h1 hr=>exact ⟨_,rfl,hl,h1,fun i d u a b=>.im (hr i d u a b)⟩
   | agg hl h1 hr=>exact ⟨_,rfl,hl,h1,hr⟩
theorem s5 {op:BinOp} {t yt:TypeId} {x y:Operand} (ho:o.op=.binOp op t x y yt) {dx dy d:D} (hx:ev E.gl tm x=some dx) (hy:ev E.gl tm y=some dy) (hk:K fp0 (put o.dst d tm) S nx)
   (hrun:∀ (w:World) (Av:Nat→Prop) (ρ:Nat→Option Value) (u v:Value),VR w Av ρ dx u→VR w Av ρ dy v→(eqGuard op t x y u v).run E.P w=.ok () w∧∃ r,(binOp op t u v).run E.P w=.ok r w∧VI w Av d r):Ok1 E o tm S nx K:=by
 refine Ok1.pure (fp:=[]) hk fun cx tm' S' a w ρ he _ h=>?_;obtain ⟨e1,r,e2,e3⟩:=hrun w (AvS cx.G S' ρ) ρ _ _ (h.eval ((he x (by simp [ho,Op.operands])).trans hx)) (h.eval ((he y (by simp [ho,Op.operands])).trans hy));exact ⟨r,by simp [execOp,ho,e1,e2],.gr (.atom (.im e3))⟩
theorem Gb {op:BinOp} {kd:IntKind} {m n:Int} {K:D→Prop} (hk:sM op kd m n K):∃ d,(∀ K':D→Prop,K' d→sM op kd m n K')∧K d:=by
 unfold sM at hk ⊢;cases op <;> first
  | (obtain ⟨r,h1,h2⟩:=hk; exact ⟨_,fun K' h=>⟨r,h1,h⟩,h2⟩)
  | (obtain ⟨h0,r,h1,h2⟩:=hk; exact ⟨_,fun K' h=>⟨h0,r,h1,h⟩,h2⟩)
  | exact ⟨_,fun K' h=>h,hk⟩
  | exact hk.elim
theorem Gd {op:BinOp} {a b:List UInt8} {K:D→Prop} (hk:sN op a b K):∃ d,(∀ K':D→Prop,K' d→sN op a b K')∧K d:=by
 unfold sN at hk ⊢;cases op <;> first
  | exact ⟨_,fun K' h=>h,hk⟩
  | (obtain ⟨h1,h2⟩:=hk; exact ⟨_,fun K' h=>⟨h1,h⟩,h2⟩)
  | exact hk.elim
theorem kF {P:Program} {w:World} (op:BinOp) (t:TypeId) (x y:Operand) (u v:Value) (h:(∃ k n,u=.int k n)∨(∃ s,u=.string s)∨∃ b,u=.bool b):(eqGuard op t x y u v).run P w=.ok () w:=by
 rcases h with ⟨k,n,rfl⟩|⟨s,rfl⟩|⟨b,rfl⟩ <;> cases op <;> simp [eqGuard]
theorem IQ {op:BinOp} {t yt:TypeId} {x y:Operand} (ho:o.op=.binOp op t x y yt) {kd:IntKind} {m n:Int} (hx:ev E.gl tm x=some (.k kd m)) (hy:ev E.gl tm y=some (.k kd n))
   (hk:sM op kd m n fun d=>K fp0 (put o.dst d tm) S nx):Ok1 E o tm S nx K:=by
 obtain ⟨d,h1,h2⟩:=Gb hk;refine s5 ho hx hy h2 fun w Av ρ u v hu hv=>?_;obtain rfl:=hu.k_inv;obtain rfl:=hv.k_inv;obtain ⟨d',r,e1,e2,rfl⟩:=Ey (P:=E.P) (w:=w) (t:=t) (Av:=Av) (h1 (fun x=>x=d) rfl);exact ⟨kF _ _ _ _ _ _ (.inl ⟨_,_,rfl⟩),r,e1,e2⟩
theorem IR {op:BinOp} {t yt:TypeId} {x y:Operand} (ho:o.op=.binOp op t x y yt) {p q:List UInt8} (hx:ev E.gl tm x=some (.s p)) (hy:ev E.gl tm y=some (.s q))
   (hk:sN op p q fun d=>K fp0 (put o.dst d tm) S nx):Ok1 E o tm S nx K:=by
 obtain ⟨d,h1,h2⟩:=Gd hk;refine s5 ho hx hy h2 fun w Av ρ u v hu hv=>?_;obtain rfl:=hu.s_inv;obtain rfl:=hv.s_inv;obtain ⟨d',r,e1,e2,rfl⟩:=Ez (P:=E.P) (w:=w) (t:=t) (Av:=Av) (h1 (fun x=>x=d) rfl);exact ⟨kF _ _ _ _ _ _ (.inr (.inl ⟨_,rfl⟩)),r,e1,e2⟩
theorem HG (hty:dW E) {op:BinOp} {t yt:TypeId} {x y:Operand} (ho:o.op=.binOp op t x y yt) {p q:Bool} (hx:ev E.gl tm x=some (.b p)) (hy:ev E.gl tm y=some (.b q)) {td:TD} (ht:E.ty t=some td) (hkd:td.kind=.bool)
   (hk:nb op p q fun d=>K fp0 (put o.dst d tm) S nx):Ok1 E o tm S nx K:=by
 have hu:E.P.underlying t=some .bool:=by
  have:=hty.kind ht
  rw [hkd] at this;unfold eO at this;split at this <;> (try (cases this; done)) <;> rename_i h1 h2 <;> first|exact h2|(cases h1; done)
 obtain ⟨d,h1,h2⟩:∃ d,(∀ K':D→Prop,K' d→nb op p q K')∧K fp0 (put o.dst d tm) S nx:=by
  unfold nb at hk ⊢;cases op <;> first|exact ⟨_,fun K' h=>h,hk⟩|exact hk.elim
 refine s5 ho hx hy h2 fun w Av ρ u v hu' hv=>?_;obtain rfl:=hu'.b_inv;obtain rfl:=hv.b_inv;obtain ⟨d',r,e1,e2,rfl⟩:=BP (P:=E.P) (w:=w) (t:=t) hu (Av:=Av) (h1 (fun x=>x=d) rfl);exact ⟨kF _ _ _ _ _ _ (.inr (.inr ⟨_,rfl⟩)),r,e1,e2⟩
theorem IU (hty:dW E) {op:BinOp} {t yt:TypeId} {x y:Operand} (ho:o.op=.binOp op t x y yt) {ds es:List D} (hx:ev E.gl tm x=some (.agg ds)) (hy:ev E.gl tm y=some (.agg es)) {td:TD} (ht:E.ty t=some td) {c:List Nat} (hc:td.eqv=some c)
   (hk:BC op c ds es fun d=>K fp0 (put o.dst d tm) S nx):Ok1 E o tm S nx K:=by
 obtain ⟨h1,h2,fs,h3⟩:=hty.eqv ht hc;unfold BC at hk;split at hk
 · rename_i z hz;have both:∀ (w:World) (Av:Nat→Prop) (ρ:Nat→Option Value) (u v:Value),VR w Av ρ (.agg ds) u→VR w Av ρ (.agg es) v→∃ us vs:List Value,u=.agg us.toArray∧v=.agg vs.toArray∧(Op.equalIn 10000 t (.agg us.toArray) (.agg vs.toArray)).run E.P w=.ok z w:=by
    intro w Av ρ u v hu hv;obtain ⟨us,rfl,e1,_,e2⟩:=hu.agg_inv;obtain ⟨vs,rfl,e3,_,e4⟩:=hv.agg_inv
    have:=vb (P:=E.P) (w:=w) 5 t c 9995 ds es us vs z h1 e1 e3 e2 e4 hz
    simp only [pv,h3] at this;exact ⟨us,vs,rfl,rfl,this⟩
   split at hk
   · refine s5 ho hx hy hk fun w Av ρ u v hu hv=>?_;obtain ⟨us,vs,rfl,rfl,e⟩:=both w Av ρ u v hu hv;exact ⟨run_eqGuard_agg w _ t x y _ _ h2,_,by rw [run_eql_struct,e]; rfl,.b _⟩
   · refine s5 ho hx hy hk fun w Av ρ u v hu hv=>?_;obtain ⟨us,vs,rfl,rfl,e⟩:=both w Av ρ u v hu hv;exact ⟨run_eqGuard_agg w _ t x y _ _ h2,_,by rw [run_neq_struct,e]; rfl,.b _⟩
   · exact hk.elim
 · exact hk.elim
theorem IV {t:TypeId} {x:Operand} (ho:o.op=.unOp .not t x) {p:Bool} (hx:ev E.gl tm x=some (.b p)) (hk:K fp0 (put o.dst (.b (!p)) tm) S nx):Ok1 E o tm S nx K:=by
 refine Ok1.pure (fp:=[]) hk fun cx tm' S' a w ρ he _ h=>?_;have hv:=(h.eval ((he x (by simp [ho,Op.operands])).trans hx)).b_inv;exact ⟨_,by simp [execOp,ho,hv,Op.unary],.gr (.atom (.im (.b _)))⟩
theorem IW {t:TypeId} {x:Operand} (ho:o.op=.unOp .neg t x) {kd:IntKind} {n:Int} (hx:ev E.gl tm x=some (.k kd n)) (hk:K fp0 (put o.dst (.k kd (kd.wrap (0 - n))) tm) S nx):Ok1 E o tm S nx K:=by
 refine Ok1.pure (fp:=[]) hk fun cx tm' S' a w ρ he _ h=>?_;have hv:=(h.eval ((he x (by simp [ho,Op.operands])).trans hx)).k_inv;exact ⟨_,by simp [execOp,ho,hv,Op.unary,Op.intArith],.gr (.atom (.im (.k _ _)))⟩
theorem VR.tup_inv {w:World} {Av:Nat→Prop} {ρ:Nat→Option Value} {ds:List D} {v:Value} (h:VR w Av ρ (.tup ds) v):∃ us:List Value,v=.tuple us.toArray∧ds.length=us.length∧∀ (i:Nat) (d:D) (u:Value),ds[i]?=some d→us[i]?=some u→VG w Av ρ d u:=by
 cases h with
 | gr h=>cases h with|atom h=>cases h with|im h=>cases h
 | tup hl hr=>exact ⟨_,rfl,hl,hr⟩
theorem BR {x:Operand} {i:Nat} (ho:o.op=.extract x i) {ds:List D} (hx:ev E.gl tm x=some (.tup ds)) {d:D} (hd:ds[i]?=some d) (hk:K fp0 (put o.dst d tm) S nx):Ok1 E o tm S nx K:=by
 refine Ok1.pure (fp:=[]) hk fun cx tm' S' a w ρ he _ h=>?_;have hv:=h.eval ((he x (by simp [ho,Op.operands])).trans hx);obtain ⟨us,hv',hl,hr⟩:=hv.tup_inv;have hi:i < us.length:=by rw [← hl]; exact (List.getElem?_eq_some_iff.1 hd).1
 exact ⟨us[i],by simp [execOp,ho,hv',Instr.extract,hi],.gr (hr i d _ hd (zAB hi))⟩
theorem mz {x:Operand} (ho:o.op=.nilCheck x) {d:D} (hx:ev E.gl tm x=some d) (hd:(∃ n off,d=.bp n off)∨(∃ n z i off,d=.op n z i off)∨∃ cs,d=.ep cs) (hk:K fp0 (put o.dst d tm) S nx):Ok1 E o tm S nx K:=by
 refine Ok1.pure (fp:=[]) hk fun cx tm' S' a w ρ he _ h=>?_;have hv:=h.eval ((he x (by simp [ho,Op.operands])).trans hx);refine ⟨a.eval x,?_,hv⟩;rcases hd with ⟨n,off,rfl⟩|⟨n,z,i,off,rfl⟩|⟨cs,rfl⟩
 · obtain ⟨b,_,e⟩:=hv.bp_inv; simp [execOp,ho,e]
 · obtain ⟨g,l,c,_,e⟩:=hv.op_inv; simp [execOp,ho,e]
 · obtain ⟨ad,e,_⟩:=hv.ep_inv.ep_inv; simp [execOp,ho,e]
theorem BS (hty:dW E) {s t:TypeId} {x:Operand} (ho:o.op=.convert s t x) {kd kd':IntKind} {n:Int} (hx:ev E.gl tm x=some (.k kd n)) {ts td:TD} (hs:E.ty s=some ts) (ht:E.ty t=some td) {ks:IntKind} (h1:ts.kind=.int ks) (h2:td.kind=.int kd')
   (hk:K ⟨nmD (.k kd n),[]⟩ (put o.dst (.k kd' (kd'.wrap n)) tm) S nx):Ok1 E o tm S nx K:=by
 refine Ok1.pure (fp:=[]) hk fun cx tm' S' a w ρ he _ h=>?_;have hv:=(h.eval ((he x (by simp [ho,Op.operands])).trans hx)).k_inv;have u1:=hty.kind hs;have u2:=hty.kind ht;rw [h1] at u1;rw [h2] at u2;exact ⟨_,by simp [execOp,ho,hv,convert,run_underlying (sY u1),run_underlying (sY u2),Conv.intToInt],.gr (.atom (.im (.k _ _)))⟩
theorem BT (hty:dW E) {s t:TypeId} {x:Operand} (ho:o.op=.convert s t x) {l:List UInt8} (hx:ev E.gl tm x=some (.s l)) {ts td:TD} (hs:E.ty s=some ts) (ht:E.ty t=some td) (h1:ts.kind=.str) (h2:td.kind=.str)
   (hk:K ⟨nmD (.s l),[]⟩ (put o.dst (.s l) tm) S nx):Ok1 E o tm S nx K:=by
 refine Ok1.pure (fp:=[]) hk fun cx tm' S' a w ρ he _ h=>?_;have hv:=(h.eval ((he x (by simp [ho,Op.operands])).trans hx)).s_inv;have u1:=hty.kind hs;have u2:=hty.kind ht;rw [h1] at u1;rw [h2] at u2;exact ⟨_,by simp [execOp,ho,hv,convert,run_underlying (jO u1),run_underlying (jO u2)],.gr (.atom (.im (.s _)))⟩
theorem EC {cx:Cx} {a:Act} {w:World} {ρ:Nat→Option Value} (h:R E cx tm S a w ρ) {d:D} {v:Value} (hv:VR w (AvS cx.G S ρ) ρ d v) {xs:List (List D)} (hi:fJ S d=some (.sl xs)) (hk:∀ cs∈xs,∀ ys,cs≠[.sl ys]) :
   ∃ A n c,v=.slice A n c∧xs.length=n∧(A=none→xs=[])∧∀ ad,A=some ad→∃ sz,(∀ cs∈xs,cs.length=sz)∧∀ (i j:Nat) (cs:List D) (d:D),xs[i]?=some cs→cs[j]?=some d→∃ u,w.cell? (ad.add (i * sz+j))=some u∧VI w (AvS cx.G S ρ) d u:=by
 have imm:VI w (AvS cx.G S ρ) (.sl xs) v→∃ A n c,v=.slice A n c∧xs.length=n∧(A=none→xs=[])∧∀ ad,A=some ad→∃ sz,(∀ cs∈xs,cs.length=sz)∧∀ (i j:Nat) (cs:List D) (d:D),xs[i]?=some cs→cs[j]?=some d→∃ u,w.cell? (ad.add (i * sz+j))=some u∧VI w (AvS cx.G S ρ) d u:=by
  intro hv;obtain ⟨A,n,c,rfl,hn,_,_,hnone,hsome⟩:=hv.sl_inv;refine ⟨A,n,c,rfl,hn,fun h=>(hnone h).1,fun ad h=>?_⟩;obtain ⟨_,_,sz,h1,h2⟩:=hsome ad h;exact ⟨sz,h1,fun i j cs d p q=>let ⟨u,e1,_,e3⟩:=h2 i j cs d p q; ⟨u,e1,e3⟩⟩
 cases d with
 | nil=>
   simp [fJ,cR] at hi;subst hi;rw [hv.nil_inv];exact ⟨none,0,0,rfl,rfl,fun _=>rfl,fun ad h=>by cases h⟩
 | sl ys=>
   simp [fJ,cR] at hi;subst hi;exact imm hv.sl_inv
 | own t=>
   simp only [fJ,cR] at hi;split at hi
   · rename_i b hl;split at hi
     · rename_i ys him;cases hi;have hsr:=h.st _ _ hl;have hown:=hv.own_inv;cases b with
       | box e cs=>simp [imB] at him
       | row e cs=>simp [imB] at him
       | own e zs=>
         simp only [imB,zAV] at him;subst him;obtain ⟨u,us,hr,ho,hc⟩:=hsr;rw [dt hr (cJ ho)] at hown;cases hown;rcases ho.2 with ⟨rfl,hn⟩|⟨g,cap,cur,rfl,_⟩
         · exact ⟨none,0,0,rfl,hn,fun _=>List.eq_nil_of_length_eq_zero hn,fun ad h=>by cases h⟩
         · refine ⟨_,_,_,rfl,rfl,(fun h=>by cases h),fun ad h=>?_⟩;cases h;refine ⟨_,hc.el,fun i j cs d p q=>?_⟩;obtain ⟨u,e1,e2⟩:=hc.at_ i j cs d p q;exact ⟨u,ho.cells (g:=g) rfl _ _ e1,e2⟩
       | fr zs=>
         simp only [imB,zAV] at him;subst him;obtain ⟨u,hr,hvi⟩:=hsr;rw [hr] at hown;cases hown;exact imm hvi
       | deep e e2 zs=>
         obtain ⟨u,vs,us,hd⟩:=hsr;rw [dX hd.name] at hown;cases hown;obtain ⟨z1,z2⟩:=ss him;have hz:zs=[]:=by
          cases zs with
          | nil=>rfl
          | cons z r=>
            obtain ⟨q,_,q2⟩:=z2 0 z rfl;exact absurd rfl (hk _ (zAD q2) q)
         subst hz;have hys:xs=[]:=List.eq_nil_of_length_eq_zero z1;subst hys;rcases hd.own.2 with ⟨rfl,hn⟩|⟨g,cap,cur,rfl,_⟩
         · exact ⟨none,0,0,rfl,rfl,fun _=>rfl,fun ad h=>by cases h⟩
         · exact ⟨_,_,_,rfl,rfl,fun _=>rfl,fun ad h=>⟨0,by simp,by simp⟩⟩
     · cases hi
   · cases hi
 | fn f cs=>simp only [fJ,cR] at hi; split at hi <;> cases hi
 | agg ds=>simp only [fJ] at hi; split at hi <;> cases hi
 | bp=>simp [fJ,cR] at hi
 | op=>simp [fJ,cR] at hi
 | junk=>simp [fJ,cR] at hi
 | vw=>simp [fJ,cR] at hi
 | tup=>simp [fJ,cR] at hi
 | b=>simp [fJ,cR] at hi
 | k=>simp [fJ,cR] at hi
 | s=>simp [fJ,cR] at hi
 | v=>simp [fJ,cR] at hi
 | ep=>simp [fJ,cR] at hi
theorem BU {S':ac} {d:D} (hf:∀ n∈nmD d,lk S' n=lk S n):fJ S' d=fJ S d:=by
 have atom:∀ d,(∀ n∈nmA d,lk S' n=lk S n)→cR S' d=cR S d:=by
  intro d h;cases d <;> simp only [cR];rw [h _ (by simp [nmA])]
 have atoms:∀ ds:List D,(∀ n∈j9 ds,lk S' n=lk S n)→me S' ds=me S ds:=by
  intro ds
  induction ds with
  | nil=>intro _; rfl
  | cons d r ih=>
    intro h;simp only [me];rw [atom d fun n hn=>h n (by simp [j9,hn]),ih fun n hn=>h n (by simp [j9,hn])]
 cases d with
 | agg ds=>simp only [fJ]; rw [atoms ds fun n hn=>hf n (by simp [nmD,hn])]
 | tup=>rfl
 | own t=>exact atom (.own t) hf
 | _=>rfl
theorem xA (hty:dW E) {s t e:TypeId} {x:Operand} (ho:o.op=.convert s t x) {d:D} (hx:ev E.gl tm x=some d) {ts td te:TD} (hs:E.ty s=some ts) (ht:E.ty t=some td) (he:E.ty e=some te) (h1:ts.kind=.slice e) (h2:td.kind=.str) (h3:te.kind=.int .u8)
   {l:List UInt8} (hl:fJ S d=some (.sl (bh l))) (hk:K ⟨nmD d,[]⟩ (put o.dst (.s l) tm) S nx):Ok1 E o tm S nx K:=by
 refine Ok1.pure (fp:=nmD d) hk fun cx tm' S' a w ρ hev hf h=>?_;have hv:=h.eval ((hev x (by simp [ho,Op.operands])).trans hx);have u1:=hty.kind hs;have u2:=hty.kind ht;have u3:=hty.kind he;rw [h1] at u1;rw [h2] at u2;rw [h3] at u3;rw [← BU hf] at hl;obtain ⟨A,n,c,hva,hn,hnone,hsome⟩:=EC h hv hl (fun cs hcs ys e=>by
  simp only [bh,List.mem_map] at hcs;obtain ⟨c,_,rfl⟩:=hcs;simp at e)
 have hconv:=run_convert_bytes_string (P:=E.P) w s t e A n c (ci u1) (sY u3) (jO u2);refine ⟨.string ⟨l.toArray⟩,?_,.gr (.atom (.im (.s _)))⟩;simp only [execOp,ho,hva,hconv,Sem.run_bind,Sem.run_pure];cases A with
 | none=>
   have:l=[]:=by
    have:=hnone rfl
    simpa [bh] using this
   subst this;simp [Conv.bytesToString];rfl
 | some ad=>
   obtain ⟨sz,hsz,hcell⟩:=hsome ad rfl;have hcells:(loadCells ad n).run E.P w=.ok ((l.map fun c=>(c.toNat:Int)).map (Value.int .u8)).toArray w:=by
    have:=run_loadCells_list (P:=E.P) w ad ((l.map fun c=>(c.toNat:Int)).map (Value.int .u8)) (fun j u hu=>by
     have hj:j < l.length:=by have:=(List.getElem?_eq_some_iff.1 hu).1; simpa using this
     have hbs:(bh l)[j]?=some [D.k .u8 ((l[j]).toNat:Int)]:=by simp [bh,hj]
     have hsz1:sz=1:=(hsz _ (zAD hbs)).symm;obtain ⟨u',e1,e2⟩:=hcell j 0 _ _ hbs rfl;cases e2;subst hsz1;simp [hj] at hu;subst hu;simpa using e1)
    rw [← hn];simpa [bh] using this
   rw [run_bytesToString w ad n c _ hcells];simp only [Result.andThen_ok];have key:∀ (l:List UInt8) (s:List UInt8),(l.map fun c=>(c.toNat:Int)).foldl (fun r n=>ByteArray.push r (UInt8.ofNat n.toNat)) (⟨s.toArray⟩:ByteArray)=⟨(s++l).toArray⟩:=by
    intro l
    induction l with
    | nil=>intro s; simp
    | cons c r ih=>
      intro s;simp only [List.map_cons,List.foldl_cons]
      have:ByteArray.push (⟨s.toArray⟩:ByteArray) (UInt8.ofNat ((c.toNat:Int)).toNat)=⟨(s++[c]).toArray⟩:=by
       simp [ByteArray.push]
      rw [this,ih]
      simp
   have:=key l []
   simp only [zBB] at this;congr 3
theorem VR.vw_inv {w:World} {Av:Nat→Prop} {ρ:Nat→Option Value} {t sz a b:Nat} {v:Value} (h:VR w Av ρ (.vw t sz a b) v):∃ (n c:Nat) (A:Option Addr),ρ t=some (.slice A n c)∧a≤b∧b≤n∧n≤c∧(A=none→c=0)∧v=.slice (if c=a then A else A.map (·.add (a * sz))) (b - a) (c - a):=by
 cases h with
 | gr h=>
   cases h with
   | atom h=>
     cases h with
     | im h=>cases h
     | vw h h1 h2 h3 h4=>exact ⟨_,_,_,h,h1,h2,h3,h4,rfl⟩
theorem IX (hty:dW E) {x:Operand} {t:TypeId} {ca:Array Operand} {ct:Array TypeId} (ho:o.op=.call { callee:=.builtin .len,args:=ca,argTypes:=ct }) (hca:ca=#[x]) (hct:ct=#[t]) {d:D} (hx:ev E.gl tm x=some d) {td:TD} (ht:E.ty t=some td)
   (hk:zn td.kind S d fun n=>K ⟨nmD d,[]⟩ (put o.dst (.k .i64 n) tm) S nx):Ok1 E o tm S nx K:=by
 subst hca hct;have ex:∃ n,(∀ K':Int→Prop,K' n→zn td.kind S d K')∧K ⟨nmD d,[]⟩ (put o.dst (.k .i64 n) tm) S nx:=by
  unfold zn at hk ⊢;cases hkd:td.kind <;> rw [hkd] at hk <;> (try exact hk.elim) <;> cases d <;> (try exact hk.elim) <;> simp only at hk ⊢
  · exact ⟨_,fun K' h=>h,hk⟩
  · exact ⟨_,fun K' h=>h,hk⟩
  · exact ⟨_,fun K' h=>h,hk⟩
  · split at hk;all_goals first|exact ⟨_,fun K' h=>h,hk⟩|exact hk.elim
  · exact ⟨_,fun K' h=>h,hk⟩
 obtain ⟨n,h1,h2⟩:=ex;refine Ok1.pure (fp:=nmD d) h2 fun cx tm' S' a w ρ hev hf h=>?_;have hv:=h.eval ((hev x (by simp [ho,Op.operands,Call.operands])).trans hx);have hk':=BQ hf (h1 (fun x=>x=n) rfl);have hkc:=hty.kind ht;have run:∀ (v:Value) (r:Int),a.eval x=v→(Builtin.len_ #[t] o.type #[v]).run E.P w=.ok (.int .i64 r) w→(execOp a.eval o).run E.P w=.ok (.value (.int .i64 r)) w:=by
  intro v r hv hr;simp only [execOp,ho,resolve,invoke,builtin,Sem.run_bind,Sem.run_pure,Result.andThen_ok,List.map_toArray,List.map_cons,List.map_nil,hv,hr]
 have sl:∀ (A:Option Addr) (m c:Nat) (e:TypeId),E.P.underlying t=some (.slice e)→(Builtin.len_ #[t] o.type #[.slice A m c]).run E.P w=.ok (.int .i64 (m:Int)) w:=by
  intro A m c e hu;simp [Builtin.len_,run_underlying hu,goInt]
 unfold zn at hk';cases hkd:td.kind <;> rw [hkd] at hk' hkc <;> (try exact hk'.elim) <;> cases d <;> (try exact hk'.elim) <;> simp only at hk'
 · rename_i l;subst hk';refine ⟨_,run _ _ hv.s_inv ?_,.gr (.atom (.im (.k _ _)))⟩;have hsz:(⟨l.toArray⟩:ByteArray).size=l.length:=by simp [ByteArray.size]
   simp [Builtin.len_,run_underlying (jO hkc),goInt,hsz]
 · subst hk';exact ⟨_,run _ _ hv.nil_inv (sl _ _ _ _ (ci hkc)),.gr (.atom (.im (.k _ _)))⟩
 · subst hk';obtain ⟨A,m,c,e,hn,_⟩:=hv.sl_inv.sl_inv;subst hn;exact ⟨_,run _ _ e (sl _ _ _ _ (ci hkc)),.gr (.atom (.im (.k _ _)))⟩
 · rename_i e0 t0;have key:∀ (u:Value) (len:Nat),nmv ρ t0=some u→(∃ A m c,u=.slice A m c∧m=len)→n=(len:Int)→∃ v,(execOp a.eval o).run E.P w=.ok (.value v) w∧VR w (AvS cx.G S' ρ) ρ (.k .i64 n) v:=by
    rintro u len hr ⟨A,m,c,rfl,rfl⟩ rfl
    have:=hv.own_inv
    rw [hr] at this;exact ⟨_,run _ _ (zAb this).symm (sl _ _ _ _ (ci hkc)),.gr (.atom (.im (.k _ _)))⟩
   have owned:∀ (e:TypeId) (sz:Nat) (u:Value) (us:List Value) (len:Nat),w.ownsRow 0 e sz u len us→∃ A m c,u=.slice A m c∧m=len:=by
    intro e sz u us len ho;rcases ho.2 with ⟨rfl,hn⟩|⟨g,cap,cur,rfl,_⟩
    · exact ⟨_,_,_,rfl,hn.symm⟩
    · exact ⟨_,_,_,rfl,rfl⟩
   split at hk'
   · rename_i e xs hl;obtain ⟨u,us,hr,ho',_⟩:=h.st _ _ hl;exact key u _ (dt hr (cJ ho')) (owned e _ u us _ ho') hk'.symm
   · rename_i e xs hl;obtain ⟨u,us,hr,ho',_⟩:=h.st _ _ hl;exact key u _ (dt hr (cJ ho')) (owned e _ u us _ ho') hk'.symm
   · rename_i e e2 zs hl;obtain ⟨u,vs,us,hd⟩:=h.st _ _ hl;exact key u _ (dX hd.name) (owned e _ u us _ hd.own) hk'.symm
   · rename_i xs hl;obtain ⟨u,hr,hvi⟩:=h.st _ _ hl;obtain ⟨A,m,c,e,hn,_⟩:=hvi.sl_inv;exact key u _ hr ⟨A,m,c,e,hn.symm⟩ hk'.symm
   · exact hk'.elim
 · subst hk';obtain ⟨n0,c0,A,hr,q1,q2,q3,q4,e⟩:=hv.vw_inv;exact ⟨_,run _ _ e (sl _ _ _ _ (ci hkc)),.gr (.atom (.im (.k _ _)))⟩
end
end Go.Ab
namespace Go.Ab
open Go Go.RowKit
theorem fA {α:Type}:∀ (vs us:List α) (o:Nat),(cO us o vs).length=us.length
 | [],_,_=>rfl
 | v :: r,us,o=>by simp [cO,fA r]
theorem qA {α:Type}:∀ (vs us:List α) (o:Nat) (x:α),x∈cO us o vs→x∈us∨x∈vs
 | [],us,o,x,h=>.inl h
 | v :: r,us,o,x,h=>by
   rcases qA r (us.set o v) (o+1) x h with h1|h1
   · rcases zAw h1 with h2|h2
     · exact .inl h2
     · exact .inr (by simp [h2])
   · exact .inr (List.mem_cons_of_mem _ h1)
theorem gN {α:Type}:∀ (vs us:List α) (o k:Nat),o+vs.length≤us.length→(cO us o vs)[k]?=if o≤k∧k < o+vs.length then vs[k - o]? else us[k]?
 | [],us,o,k,_=>by
   have:¬ (o≤k∧k < o+([]:List α).length):=by simp only [List.length_nil]; omega
   rw [if_neg this];rfl
 | v :: r,us,o,k,h=>by
   have hl:o < us.length:=by simp at h; omega
   rw [cO,gN r (us.set o v) (o+1) k (by simp at h ⊢; omega)];by_cases h1:o+1≤k∧k < o+1+r.length
   · rw [if_pos h1,if_pos (by simp; omega)]
     have:k - o=(k - (o+1))+1:=by omega
     rw [this]
     simp
   · rw [if_neg h1,zAm];by_cases h2:o=k
     · subst h2;simp [hl]
     · rw [if_neg h2,if_neg (by simp; omega)]
theorem kQ {α:Type} (vs us:List α) (o:Nat) (h:o+vs.length≤us.length):us.take o++vs++us.drop (o+vs.length)=cO us o vs:=by
 apply zBP;intro k;rw [gN vs us o k h];have h1:(us.take o).length=o:=by rw [zAd]; omega
 have h2:(us.take o++vs).length=o+vs.length:=by rw [zAT,h1]
 by_cases ha:k < o
 · rw [if_neg (by omega),zAl,zAU (by omega),zAn,if_pos ha]
 · by_cases hb:k < o+vs.length
   · rw [if_pos (by omega),zAU (by omega),zAW (by omega),h1]
   · rw [if_neg (by omega),zAW (by omega),h2,zAi];congr 1
     omega
theorem zB {p:D→Value→Prop} {ds:List D} {vs:List Value} {cs:List D} {us:List Value} {o:Nat} (hl:ds.length=vs.length) (hl':cs.length=us.length) (hle:o+ds.length≤cs.length)
   (hd:∀ (i:Nat) (d:D) (u:Value),ds[i]?=some d→vs[i]?=some u→p d u) (hc:∀ (i:Nat) (d:D) (u:Value),cs[i]?=some d→us[i]?=some u→p d u) :
   ∀ (i:Nat) (d:D) (u:Value),(cO cs o ds)[i]?=some d→(cO us o vs)[i]?=some u→p d u:=by
 intro i d u a b;rw [gN ds cs o i hle] at a;rw [gN vs us o i (by omega),← hl] at b;split at a
 · rename_i hi;rw [if_pos hi] at b;exact hd _ d u a b
 · rename_i hi;rw [if_neg hi] at b;exact hc _ d u a b
theorem Cs.fill {w:World} {Av:Nat→Prop} {ρ:Nat→Option Value} {cs ds:List D} {us vs:List Value} (h:Cs w Av ρ cs us) (k:Cs w Av ρ ds vs) {o:Nat} (hle:o+ds.length≤cs.length):Cs w Av ρ (cO cs o ds) (cO us o vs):=
 ⟨by rw [fA,fA]; exact h.len,fun u hu=>(qA _ _ _ _ hu).elim (h.one u) (k.one u),zB k.len h.len hle k.at_ h.at_⟩
theorem vV:∀ (vs:List Value) (j off:Nat) (us:List Value),
   (vs.zipIdx j).foldl (fun (cs:Array Value) (x:Value × Nat)=>cs.setIfInBounds (off+x.2) x.1) us.toArray=(cO us (off+j) vs).toArray
 | [],_,_,_=>rfl
 | v :: r,j,off,us=>by
   simp only [List.zipIdx_cons,List.foldl_cons,cO,List.setIfInBounds_toArray];rw [vV r (j+1) off];rfl
theorem qB (place:Nat→Option (Nat × Nat)) (us:List Value) (i off z:Nat) (v:Value) (rest:List (Nat × Value)) (hp:place i=some (off,z)) (hz:v.cells.toList.length=z) (hle:off+z≤us.length) :
   Instr.fill place us.toArray ((i,v) :: rest)=Instr.fill place (cO us off v.cells.toList).toArray rest:=by
 have h1:¬ (v.cells.size≠z∨off+v.cells.size > us.length):=by
  have:v.cells.size=z:=by simpa using hz
  omega
 have h2:=vV v.cells.toList 0 off us;simp only [Nat.add_zero] at h2;simp only [Instr.fill,hp,List.size_toArray];rw [if_neg (by simpa using h1)];rw [← Array.foldl_toList,Array.toList_zipIdx];rw [h2]
theorem xB {i i' j sz:Nat} (hj:j < sz) (h:i' < i):i' * sz+j < i * sz:=by
 have:(i'+1) * sz≤i * sz:=zAf sz h
 rw [zAv] at this;omega
theorem Rows.set {p:D→Value→Prop} {sz:Nat} {xs:List (List D)} {us:List Value} (h:Rows p sz xs us) {i off:Nat} {cs ds:List D} {vs:List Value} (hi:xs[i]?=some cs) (hl:off+ds.length≤cs.length) (hdl:ds.length=vs.length)
   (h1:∀ v∈vs,v.oneCell'=true) (hv:∀ (i:Nat) (d:D) (u:Value),ds[i]?=some d→vs[i]?=some u→p d u):Rows p sz (xs.set i (cO cs off ds)) (cO us (i * sz+off) vs):=by
 have hil:i < xs.length:=(List.getElem?_eq_some_iff.1 hi).1;have hcs:cs.length=sz:=h.el cs (zAD hi);have hfit:i * sz+off+vs.length≤us.length:=by
  have:(i+1) * sz≤xs.length * sz:=zAf sz hil
  rw [zAv] at this;rw [h.len];omega
 refine ⟨by rw [fA,zAS]; exact h.len,fun c hc=>?_,fun u hu=>(qA _ _ _ _ hu).elim (h.one u) (h1 u),fun i' j c d hc hd=>?_⟩
 · rcases zAw hc with h2|rfl
   · exact h.el c h2
   · rw [fA]; exact hcs
 · rw [zAm] at hc;rw [gN _ _ _ _ hfit];by_cases e:i=i'
   · subst e;rw [if_pos rfl,if_pos hil] at hc;cases hc;have hj:j < sz:=by rw [← hcs,← fA ds cs off]; exact (List.getElem?_eq_some_iff.1 hd).1
     obtain ⟨olds,o1,o2⟩:=ng (fun (k:Nat) (d:D) (u:Value)=>us[i * sz+k]?=some u∧p d u) cs (fun k d hk=>h.at_ i k cs d hi hk);have hj':j < (cO olds off vs).length:=by rw [fA,o1,hcs]; exact hj
     have hrel:=zB (p:=p) hdl o1.symm hl hv (fun i d u p q=>(o2 i d u p q).2) j d _ hd (zAB hj');refine ⟨_,?_,hrel⟩;have hg:=gN vs olds off j (by rw [o1]; omega);rw [zAB hj'] at hg;by_cases hin:off≤j∧j < off+vs.length
     · rw [if_pos (by omega)];rw [if_pos hin] at hg;rw [hg];congr 1
       omega
     · rw [if_neg (by omega)];rw [if_neg hin] at hg;have hjc:j < cs.length:=by omega
       have:=(o2 j cs[j] _ (zAB hjc) hg.symm).1
       rw [this]
   · rw [if_neg e] at hc;obtain ⟨u,e1,e2⟩:=h.at_ i' j c d hc hd;refine ⟨u,?_,e2⟩;have hj:j < sz:=by rw [← h.el c (zAD hc)]; exact (List.getElem?_eq_some_iff.1 hd).1
     rw [if_neg ?_]
     · exact e1
     · rcases zBZ e with hlt|hgt
       · have:=xB (i:=i') (i':=i) (j:=off+vs.length - 1) (sz:=sz)
         intro hh;have h3:i * sz+sz≤i' * sz:=by
          have:(i+1) * sz≤i' * sz:=zAf sz hlt
          rw [zAv] at this;omega
         omega
       · intro hh;have h3:=xB (i:=i) (i':=i') hj hgt;omega
theorem s6 (z:Array Value) (n k:Nat) (hk:k < n) (_hz:0 < z.size):(madeCells z n).toList[k]?=some z[k % z.size]! := by
 simp [madeCells,hk]
theorem Rows.made {p:D→Value→Prop} {z:Array Value} {zs:List D} (hl:zs.length=z.size) (hz:0 < z.size) (h1:∀ u∈z.toList,u.oneCell'=true)
   (hv:∀ (i:Nat) (d:D) (u:Value),zs[i]?=some d→z.toList[i]?=some u→p d u) (n:Nat):Rows p z.size (List.replicate n zs) (madeCells z (n * z.size)).toList:=by
 have hget:∀ k,k < z.size→z[k]?=some z[k]! := fun k hk=>by simp [hk]
 refine ⟨by simp [madeCells],fun c hc=>?_,fun u hu=>?_,fun i j c d hc hd=>?_⟩
 · rw [(List.mem_replicate.1 hc).2]; exact hl
 · obtain ⟨k,hk⟩:=List.mem_iff_getElem?.1 hu;have hlt:k < n * z.size:=by have:=(List.getElem?_eq_some_iff.1 hk).1; simpa [madeCells] using this
   rw [s6 z _ k hlt hz] at hk;cases hk;have hm:=Nat.mod_lt k hz;exact h1 _ (by rw [Array.mem_toList_iff]; exact zBc (hget _ hm))
 · have hi:i < n:=by have:=(List.getElem?_eq_some_iff.1 hc).1; simpa using this
   have hc':c=zs:=by
    have:=zAD hc
    exact (List.mem_replicate.1 this).2
   subst hc';have hj:j < z.size:=by rw [← hl]; exact (List.getElem?_eq_some_iff.1 hd).1
   have hlt:i * z.size+j < n * z.size:=xB hj hi;refine ⟨_,s6 z _ _ hlt hz,?_⟩
   have:(i * z.size+j) % z.size=j:=by rw [Nat.mul_comm,Nat.mul_add_mod]; exact Nat.mod_eq_of_lt hj
   rw [this];exact hv j d _ hd (by simpa using hget j hj)
theorem Rows.append {p:D→Value→Prop} {sz:Nat} {xs ys:List (List D)} {us vs:List Value} (h:Rows p sz xs us) (k:Rows p sz ys vs):Rows p sz (xs++ys) (us++vs):=by
 refine ⟨by rw [zAT,zAT,h.len,k.len,zAv],fun c hc=>?_,fun u hu=>?_,fun i j c d hc hd=>?_⟩
 · rcases zAu.1 hc with h1|h1
   · exact h.el c h1
   · exact k.el c h1
 · rcases zAu.1 hu with h1|h1
   · exact h.one u h1
   · exact k.one u h1
 · by_cases hi:i < xs.length
   · rw [zAU hi] at hc;obtain ⟨u,e1,e2⟩:=h.at_ i j c d hc hd;refine ⟨u,?_,e2⟩;rw [zAU (List.getElem?_eq_some_iff.1 e1).1];exact e1
   · rw [zAW (by omega)] at hc;obtain ⟨u,e1,e2⟩:=k.at_ (i - xs.length) j c d hc hd;refine ⟨u,?_,e2⟩;have hge:xs.length * sz≤i * sz:=zAf sz (by omega);rw [zAW (by rw [h.len]; omega),← e1,h.len];congr 1
     rw [Nat.sub_mul];omega
section
variable {E:Env} {cx:Cx} {tm:Tm} {S S0:ac} {nx:Nat} {a:Act} {w:World} {ρ:Nat→Option Value} {o:Oper} {K:Kt}
theorem VI.cells {Av:Nat→Prop} {d:D} {u:Value} (h:VI w Av d u):(cellsOf d).length=u.cells.toList.length∧(∀ x∈u.cells.toList,x.oneCell'=true) ∧
   ∀ (i:Nat) (d':D) (x:Value),(cellsOf d)[i]?=some d'→u.cells.toList[i]?=some x→VI w Av d' x:=by
 by_cases ha:∃ ds,d=.agg ds
 · obtain ⟨ds,rfl⟩:=ha;cases h with
   | agg hl h1 hr=>exact ⟨by simpa [cellsOf,Value.cells] using hl,by simpa [Value.cells] using h1,fun i d x p q=>hr i d x p (by simpa [Value.cells] using q)⟩
 · have h1:=h.one fun ds e=>ha ⟨ds,e⟩;have hc:cellsOf d=[d]:=by cases d <;> first|rfl|exact absurd ⟨_,rfl⟩ ha
   rw [kO h1,hc];refine ⟨rfl,by simpa using h1,fun i d' x p q=>?_⟩;cases i with
   | zero=>simp at p q; subst p q; exact h
   | succ i=>simp at p
theorem s7 (vs us:List Value) (o m:Nat) (h:o+vs.length≤m) (hm:m≤us.length):(cO us o vs).take m=cO (us.take m) o vs:=by
 apply zBP;intro k;rw [zAn,gN _ _ _ _ (by omega),gN _ _ _ _ (by rw [zAd]; omega),zAn];by_cases hk:k < m
 · rw [if_pos hk,if_pos hk]
 · rw [if_neg hk,if_neg hk];split
   · omega
   · rfl
theorem jC (w:World) (g:Nat) (cs:Array Value):Fr (fun x=>x=g) w (w.setRow g cs):=
 ⟨rfl,rfl,rfl,by simp,fun k _ hk=>setRow_other w g k cs hk⟩
theorem jp (hty:dW E) {t:TypeId} {td:TD} (ht:E.ty t=some td) {g off:Nat} {e:TypeId} {cur:Array Value} (hg:w.heap[g]?=some (.cells cur e (0,0))) {v:Value} (hs:v.cells.toList.length=td.size)
   (hfit:off+td.size≤cur.size) (h1:∀ u∈v.cells.toList,u.oneCell'=true) :
   (Instr.storeAt t (.pointer (some ⟨g,off,none⟩)) v).run E.P w=.ok () (w.setRow g (cO cur.toList off v.cells.toList).toArray):=by
 have h2:=run_storeCells_at E.P g off e v.cells.toList 0 cur w hg (by omega) h1;simp only [Nat.add_zero] at h2;rw [kQ _ _ _ (by rw [hs,zBD]; exact hfit)] at h2;have h3:v.cells.size=td.size:=by simpa using hs
 simp [Instr.storeAt,Instr.sureAddr,storeVar,fK hty ht,h3,h2]
theorem pn {gl:Nat→Option (List D)} {pl:List (Nat × Nat)}:∀ (parts:List (Nat × Operand)) (cs:List D) (K:List D→Prop),eK gl tm pl parts cs K→∃ cs',(∀ K':List D→Prop,K' cs'→eK gl tm pl parts cs K')∧K cs'
 | [],cs,K,h=>⟨cs,fun _ h=>h,h⟩
 | (i,x) :: r,cs,K,h=>by
   unfold eK at h;split at h
   · rename_i o z hp;obtain ⟨d,hx,h⟩:=cp h;split at h
     · rename_i hb;obtain ⟨cs',h1,h2⟩:=pn r _ K h;refine ⟨cs',fun K' hK=>?_,h2⟩;unfold eK;simp only [hp,evK,hx,hb];exact h1 K' hK
     · exact h.elim
   · exact h.elim
theorem po {gl:Nat→Option (List D)} {tm':Tm} {pl:List (Nat × Nat)}:∀ (parts:List (Nat × Operand)) (cs:List D) (K:List D→Prop),(∀ p∈parts,ev gl tm' p.2=ev gl tm p.2)→eK gl tm pl parts cs K→eK gl tm' pl parts cs K
 | [],cs,K,_,h=>h
 | (i,x) :: r,cs,K,he,h=>by
   unfold eK at h ⊢;split at h
   · rename_i o z hp;obtain ⟨d,hx,h⟩:=cp h;have hx':ev gl tm' x=some d:=(he (i,x) (by simp)).trans hx;split at h
     · rename_i hb;simp only [evK,hx',hb];exact po r _ K (fun p hp=>he p (by simp [hp])) h
     · exact h.elim
   · exact h.elim
theorem nH (h:R E cx tm S a w ρ) {pl:List (Nat × Nat)}:∀ (parts:List (Nat × Operand)) (cs:List D) (us:List Value) (K:List D→Prop),eK E.gl tm pl parts cs K→Cs w (AvS cx.G S ρ) ρ cs us →
   ∃ cs' us',Instr.fill (fun i=>pl[i]?) us.toArray (parts.map fun (i,x)=>(i,a.eval x))=some us'.toArray∧Cs w (AvS cx.G S ρ) ρ cs' us'∧K cs'
 | [],cs,us,K,hf,hc=>⟨cs,us,rfl,hc,hf⟩
 | (i,x) :: r,cs,us,K,hf,hc=>by
   unfold eK at hf;split at hf
   · rename_i off z hp;obtain ⟨d,hx,hf⟩:=cp hf;split at hf
     · rename_i hb;simp only [zAE] at hb;obtain ⟨⟨h1,h2⟩,h3⟩:=hb;have hd:=((h.eval hx).vg (by simpa using h3)).cells;have hz:(a.eval x).cells.toList.length=z:=by rw [← hd.len]; exact zAI h1
       have hle:off+z≤us.length:=by rw [← hc.len]; exact zAC h2
       obtain ⟨cs',us',e1,e2,e3⟩:=nH h r _ (cO us off (a.eval x).cells.toList) K hf (hc.fill hd (zAC h2 |> fun q=>by rw [zAI h1]; exact q));refine ⟨cs',us',?_,e2,e3⟩;rw [List.map_cons,qB _ us i off z _ _ hp hz hle];exact e1
     · exact hf.elim
   · exact hf.elim
theorem ri:∀ {pl:List (Nat × Nat)} {fs:List Field},eT E.P pl fs=true→fs.mapM (fun f=>(E.P.info? f.type).map fun i=>(f.offset,i.size))=some pl
 | [],[],_=>rfl
 | [],_ :: _,h=>by simp [eT] at h
 | _ :: _,[],h=>by simp [eT] at h
 | (o,z) :: r,f :: fs,h=>by
   simp only [eT,zAE] at h;obtain ⟨⟨⟨h1,h2⟩,h3⟩,h4⟩:=h;have h2:=zAI h2;have h3:=zAC h3;have h1:=zAI h1;unfold Program.cellsOf at h2;cases hi:E.P.info? f.type with
   | none=>rw [hi] at h2; simp at h2; omega
   | some i=>
     rw [hi] at h2;simp at h2;simp [List.mapM_cons,hi,ri h4,h1,h2]
theorem Ge (hty:dW E) {t:TypeId} {parts:Array (Nat × Operand)} (ho:o.op=.build t parts) {td:TD} (ht:E.ty t=some td) {pl:List (Nat × Nat)} (hk:td.kind=.struct pl)
   (hf:eK E.gl tm pl parts.toList (cellsOf td.zero) fun cs=>K fp0 (put o.dst (.agg cs) tm) S nx):Ok1 E o tm S nx K:=by
 obtain ⟨cs',h1,h2⟩:=pn _ _ _ hf;refine Ok1.pure (fp:=[]) h2 fun cx tm' S' a w ρ he _ h=>?_;obtain ⟨i,v,hi,hs,_,hz,_,_,hzc,hkc⟩:=hty.info ht;rw [hk] at hkc;obtain ⟨fs,hu,hp⟩:=rf hkc;have hf':=po (tm':=tm') parts.toList _ (fun x=>x=cs') (fun p hp=>he p.2 (by rw [ho]; simp [Op.operands]; exact ⟨p.1,by simpa using hp⟩)) (h1 (fun x=>x=cs') rfl);obtain ⟨cs2,us',e1,e2,e3⟩:=nH h parts.toList _ v.cells.toList _ hf' (dn (w:=w) hzc).1;have e3:cs2=cs':=e3;subst e3;have hb:E.P.built t (parts.map fun (i,x)=>(i,a.eval x)).toList=some us'.toArray:=by
  simp only [Program.built,hi,hu,hz,ri hp];rw [← e1]
  simp
 refine ⟨.agg us'.toArray,?_,.gr (.agg e2.len e2.one e2.at_)⟩;simp [execOp,ho,run_build w t _ _ hb]
end
end Go.Ab
namespace Go.Ab
open Go Go.RowKit
section
variable {E:Env} {cx:Cx} {tm:Tm} {S S0:ac} {nx:Nat} {a:Act} {w:World} {ρ:Nat→Option Value} {o:Oper} {K:Kt}
theorem Ok1.unit {fp:Fp} {out:Out} {nx':Nat} {S2:ac} (h1:∀ n,lk out n≠none→n∈fp.wr) (h2:∀ n∈fp.wr,n∈fp.all) (h3:nx≤nx') (h4:∀ n,nx≤n→n < nx'→n∈fp.wr) (h5:∀ n,lk S2 n=lk (ap out S) n)
   (hk:K fp (put o.dst (.tup []) tm) S2 nx')
   (hs:∀ (cx:Cx) (tm':Tm) (S':ac) (a:Act) (w:World) (ρ:Nat→Option Value),(∀ x∈o.op.operands,ev E.gl tm' x=ev E.gl tm x)→(∀ n∈fp.all,lk S' n=lk S n)→R E cx tm' S' a w ρ→(∀ n,nx≤n→n < nx'→ρ n=none) →
     ∃ w' ρ',(execOp a.eval o).run E.P w=.ok .skip w'∧R E cx tm' (ap out S') a w' ρ'∧∀ n,¬ (nx≤n∧n < nx')→ρ' n=ρ n):Ok1 E o tm S nx K:=by
 refine ⟨fp,out,nx',.tup [],S2,fun cx tm' S' a w ρ Q hd he hf h hn=>?_,h1,h2,h3,h4,h5,hk⟩;obtain ⟨w',ρ',e1,e2,e4⟩:=hs cx tm' S' a w ρ he hf h hn;exact HD e1 ⟨ρ',e2.value hd VR.undef,fun n h1 h2=>by rw [e4 n h1]; exact h2⟩
theorem s8 (o1 o2:Out) (S:ac) {T:ac} (h:∀ n,lk T n=lk (ap o2 S) n) (n:Nat):lk (ap o1 T) n=lk (ap (o1++o2) S) n:=by
 rw [kP,cl,cl (out:=o1),h]
theorem oq {n:Nat} {b:Blk} {T:ac} {o2:Out} {S:ac} (h:∀ m,lk T m=lk (ap o2 S) m) (m:Nat):lk ((n,b) :: T) m=lk (ap ((n,some b) :: o2) S) m:=by
 have:=s8 [(n,some b)] o2 S h m
 rw [iz m];exact this
theorem R.write (h:R E cx tm S a w ρ) {n g:Nat} {b b':Blk} (hl:lk S n=some b) (hb:de b=true) (hg:bk b (ρ n) g) {w':World} (hf:Fr (fun x=>x=g) w w')
   (hs:(∀ d u,VI w (AvS cx.G S ρ) d u→VI w' (AvS cx.G (ap [(n,some b')] S) ρ) d u)→SR E.P w' (AvS cx.G (ap [(n,some b')] S) ρ) ρ n b') (hsub:∀ x,bk b' (ρ n) x→bk b (ρ n) x:=by exact fun _ h=>h):R E cx tm (ap [(n,some b')] S) a w' ρ:=by
 have lo:∀ m c,lk [(n,some b')] m=some c→m=n∧c=some b':=by
  intro m c hm;rw [au] at hm;by_cases e:n=m
  · rw [if_pos e] at hm; cases hm; exact ⟨e.symm,rfl⟩
  · rw [if_neg e] at hm; simp [lk] at hm
 have here:lk [(n,some b')] n≠none:=by simp [au]
 refine h.turn ⟨hf.weaken ?_,fun _ _ h=>h,fun m c hm hv x hx=>?_,fun m m' c c' x h1 h2 _ _ _ _=>?_,fun hi m c hm=>?_⟩
 · rintro x rfl;exact ⟨n,b,here,hl,hb,hg⟩
 · obtain ⟨rfl,e⟩:=lo m _ hm;cases e;exact .inr ⟨m,b,here,hl,hb,hsub x hx⟩
 · rw [(lo m _ h1).1,(lo m' _ h2).1]
 · obtain ⟨rfl,e⟩:=lo m _ hm;cases e;exact hs hi
theorem vW {α:Type} (vs us:List α) (h:us.length=vs.length):cO us 0 vs=vs:=by
 rw [← kQ vs us 0 (by omega)];simp [h]
theorem nI {gl:Nat→Option (List D)} {sz:Nat}:∀ (parts:List (Nat × Operand)) (xs:List (List D)) (K:List (List D)→Prop),fh gl tm S sz parts xs K→∃ xs',(∀ K':List (List D)→Prop,K' xs'→fh gl tm S sz parts xs K')∧K xs'
 | [],xs,K,h=>⟨xs,fun _ h=>h,h⟩
 | (i,x) :: r,xs,K,h=>by
   unfold fh at h;obtain ⟨d,hx,h⟩:=cp h;split at h
   · rename_i d' hd';split at h
     · rename_i hb;obtain ⟨xs',h1,h2⟩:=nI r _ K h;refine ⟨xs',fun K' hK=>?_,h2⟩;unfold fh;simp only [evK,hx,hd',hb];exact h1 K' hK
     · exact h.elim
   · exact h.elim
theorem mA {tm0:Tm} (h:R E cx tm S a w ρ) {sz:Nat}:∀ (parts:List (Nat × Operand)) (xs:List (List D)) (us:List Value) (K:List (List D)→Prop),
   fh E.gl tm0 S0 sz parts xs K→(∀ p∈parts,ev E.gl tm p.2=ev E.gl tm0 p.2)→(∀ t∈er E.gl tm0 parts,∀ ys,(lk S0 t).bind imB=some ys→lk S t=some (.fr ys))→Rows (VI w (AvS cx.G S ρ)) sz xs us →
   ∃ xs' us',Instr.fill (fun i=>some (i * sz,sz)) us.toArray (parts.map fun (i,x)=>(i,a.eval x))=some us'.toArray∧Rows (VI w (AvS cx.G S ρ)) sz xs' us'∧xs'.length=xs.length∧K xs'
 | [],xs,us,K,hf,_,_,hr=>⟨xs,us,rfl,hr,rfl,hf⟩
 | (i,x) :: r,xs,us,K,hf,he,hn,hr=>by
   unfold fh at hf;obtain ⟨d,hx,hf⟩:=cp hf;split at hf
   · rename_i d' hd';split at hf
     · rename_i hb;simp only [zAE] at hb;obtain ⟨hb1,hb2⟩:=hb;have hsz:(cellsOf d').length=sz:=zAI hb1;have hil:i < xs.length:=zAC hb2;have hvi:=pj (S0:=S0) h (fun t ht=>hn t (by simp [er,hx,ht])) (h.eval ((he (i,x) (by simp)).trans hx)) hd';obtain ⟨q1,q2,q3⟩:=hvi.cells;have hi:xs[i]?=some xs[i]:=zAB hil;have hcl:(xs[i]).length=sz:=hr.el _ (zAX hil);have hset:=hr.set (off:=0) hi (by omega) q1 q2 q3;rw [vW _ _ (by rw [hcl,hsz])] at hset;obtain ⟨xs',us',e1,e2,e3,e4⟩:=mA h r _ _ K hf (fun p hp=>he p (by simp [hp])) (fun t ht=>hn t (by simp [er,hx,ht])) hset;refine ⟨xs',us',?_,e2,by rw [e3,zAS],e4⟩;rw [List.map_cons,qB _ us i (i * sz) sz _ _ rfl (by rw [← q1,hsz]) ?_]
       · simpa using e1
       · have:(i+1) * sz≤xs.length * sz:=zAf sz hil
         rw [zAv] at this;rw [hr.len];omega
     · exact hf.elim
   · exact hf.elim
theorem Ok1.frzNew {ns fp:List Nat} {b:Blk} (hsub:∀ n∈ns,n∈fp) (hk:K ⟨nx :: fp,nx :: fp⟩ (put o.dst (.own nx) tm) ((nx,b) :: frz ns S) (nx+1))
   (hs:∀ (cx:Cx) (tm':Tm) (S':ac) (a:Act) (w:World) (ρ:Nat→Option Value),(∀ x∈o.op.operands,ev E.gl tm' x=ev E.gl tm x)→(∀ n∈fp,lk S' n=lk S n)→R E cx tm' S' a w ρ→R E cx tm' (ap (bI S ns) S') a w ρ→ρ nx=none →
     ∃ v w' u,(execOp a.eval o).run E.P w=.ok (.value v) w'∧R E cx tm' (ap [(nx,some b)] (ap (bI S ns) S')) a w' (aK ρ nx u)∧VR w' (AvS cx.G (ap [(nx,some b)] (ap (bI S ns) S')) (aK ρ nx u)) (aK ρ nx u) (.own nx) v):Ok1 E o tm S nx K:=by
 refine Ok1.val (fp:=⟨nx :: fp,nx :: fp⟩) (out:=(nx,some b) :: bI S ns) (nx':=nx+1) (d:=.own nx) (fun n h=>?_) (fun n h=>h) (Nat.le_succ _) (fun n h1 h2=>by simp; omega) (fun n=>oq (qy ns S) n) hk ?_
 · rw [au] at h;by_cases e:nx=n
   · simp [e]
   · rw [if_neg e,dY] at h;by_cases hn:n∈ns
     · simp [hsub n hn]
     · rw [if_neg hn] at h; exact absurd rfl h
 · intro cx tm' S' a w ρ he hf h hn;have hag:∀ n∈fp,lk S' n=lk S n:=fun n hn=>hf n (by simp [hn]);obtain ⟨v,w',u,e1,e2,e3⟩:=hs cx tm' S' a w ρ he hag h (h.frzs ns fun t ht=>hag t (hsub t ht)) (hn nx (zAL _) (Nat.lt_succ_self _));have heq:ap ((nx,some b) :: bI S ns) S'=ap [(nx,some b)] (ap (bI S ns) S'):=rfl;refine ⟨v,w',_,e1,by rw [heq]; exact e2,by rw [heq]; exact e3,fun n hne=>aL u (by rintro rfl; exact hne ⟨zAL _,Nat.lt_succ_self _⟩)⟩
theorem jP {P:Program} (w:World) (t e:TypeId) (n:Nat) (parts:Array (Nat × Value)) (us:List Value) (i:TypeInfo) (z:Value) (hu:P.underlying t=some (.slice e)) (hi:P.info? e=some i) (hz:i.zero=some z)
   (hn:n≤65536) (hs:i.size≤256) (hfill:Instr.fill (fun j=>some (j * i.size,i.size)) (madeCells z.cells (n * i.size)) parts.toList=some us.toArray) :
   (Instr.buildSlice t n parts).run P w=.ok (.slice (some ⟨w.heap.size,0,none⟩) n n) (w.alloc (.cells us.toArray e)):=by
 have hsmall:¬ n * i.size > 16777216:=by
  have:=zBd hn hs
  omega
 by_cases h0:n * i.size=0
 · have hm:madeCells z.cells (n * i.size)=#[]:=by rw [h0]; simp [madeCells]
   rw [hm] at hfill;have ha:∀ zero:Array Value,(Array.range (n * i.size)).map (fun x=>zero[x % zero.size]!)=#[]:=by intro zero; rw [h0]; simp
   unfold Instr.buildSlice;simp only [Sem.run_bind,run_underlying hu,Result.andThen_ok,Go.sizeOf,typeInfo,hi,Sem.run_pure,run_program,ha,hfill];simp [h0,newRow]
 · exact run_buildSlice w t e n parts us.toArray i z hu hi hz hsmall h0 hfill
theorem vd (hty:dW E) {t e:TypeId} {n:Nat} {parts:Array (Nat × Operand)} (ho:o.op=.buildSlice t n parts) {td te:TD} (ht:E.ty t=some td) (hkd:td.kind=.slice e) (hte:E.ty e=some te)
   (hf:fh E.gl tm S te.size parts.toList (List.replicate n (cellsOf te.zero)) fun xs=>n≤65536∧te.size≤256 ∧
     K ⟨nx :: er E.gl tm parts.toList,nx :: er E.gl tm parts.toList⟩ (put o.dst (.own nx) tm) ((nx,.own e xs) :: frz (er E.gl tm parts.toList) S) (nx+1)):Ok1 E o tm S nx K:=by
 obtain ⟨xs',hx1,hn,hs256,hk⟩:=nI _ _ _ hf;refine Ok1.frzNew (ns:=er E.gl tm parts.toList) (fun _ h=>h) hk fun cx tm' S' a w ρ he hag h h' hfresh=>?_;have hu:E.P.underlying t=some (.slice e):=by
  have:=hty.kind ht
  rw [hkd] at this;exact ci this
 obtain ⟨i,v,hi,hs,_,hz,hpos,hzl,hzc,_⟩:=hty.info hte;obtain ⟨c1,c2⟩:=dn (w:=w) (Av:=AvS cx.G (ap (bI S (er E.gl tm parts.toList)) S') ρ) (ρ:=ρ) hzc;have hvs:v.cells.size=te.size:=by have:=c1.len; rw [hzl] at this; simpa using this.symm
 have hrw:=Rows.made (z:=v.cells) (zs:=cellsOf te.zero) (by rw [hzl,hvs]) (by omega) c1.one c2 n;rw [hvs] at hrw;obtain ⟨xs2,us',e1,e2,e3,e4⟩:=mA (S0:=S) h' parts.toList _ _ _ (hx1 (fun x=>x=xs') rfl) (fun p hp=>he p.2 (by rw [ho]; simp [Op.operands]; exact ⟨p.1,by simpa using hp⟩)) (jN hag) hrw;have e4:xs2=xs':=e4;subst e4;have hlen:xs2.length=n:=by rw [e3]; simp
 have hce:E.P.cellsOf e=te.size:=hty.cells hte;have hfill:Instr.fill (fun i=>some (i * te.size,te.size)) (madeCells v.cells (n * te.size)) (parts.map fun (i,x)=>(i,a.eval x)).toList=some us'.toArray:=by
  rw [← e1]
  simp
 have hrun:=jP (P:=E.P) w t e n (parts.map fun (i,x)=>(i,a.eval x)) us' i v hu hi hz hn (by rw [hs]; exact hs256) (by rw [hs]; exact hfill);have hown:(w.alloc (.cells us'.toArray e)).ownsRow w.heap.size e (E.P.cellsOf e) (.slice (some ⟨w.heap.size,0,none⟩) n n) xs2.length us':=by
  rw [hlen,hce];refine ⟨by rw [e2.len,hlen],.inr ⟨w.heap.size,n,us'.toArray,rfl,zAL _,heap_alloc_new w _,zAL _,by simp only [maxLen]; omega,by simp [e2.len,hlen],?_⟩⟩;rw [zAc];simp [e2.len,hlen]
 rw [← hce] at e2;obtain ⟨h2,hv⟩:=h'.own hfresh e2 (iR w _) hown;exact ⟨_,_,_,by simp [execOp,ho,hrun],h2,hv⟩
theorem HH (hty:dW E) {t e:TypeId} {x y:Operand} (ho:o.op=.makeSlice t x y) {td te:TD} (ht:E.ty t=some td) (hkd:td.kind=.slice e) (hte:E.ty e=some te)
   {kl kc:IntKind} {n:Nat} (hx:ev E.gl tm x=some (.k kl (n:Int))) (hy:ev E.gl tm y=some (.k kc (n:Int))) (hn:n≤eN) (hb:te.bytes≤wide)
   (hk:K (fpN nx) (put o.dst (.own nx) tm) ((nx,.own e (List.replicate n (cellsOf te.zero))) :: S) (nx+1)):Ok1 E o tm S nx K:=by
 refine Ok1.one hk fun cx tm' S' a w ρ he h hfresh=>?_;have hu:E.P.underlying t=some (.slice e):=by
  have:=hty.kind ht
  rw [hkd] at this;exact ci this
 obtain ⟨i,v,hi,hs,hby,hz,hpos,hzl,hzc,_⟩:=hty.info hte;obtain ⟨c1,c2⟩:=dn (w:=w) (Av:=AvS cx.G S' ρ) (ρ:=ρ) hzc;have hvs:v.cells.size=te.size:=by have:=c1.len; rw [hzl] at this; simpa using this.symm
 have hrw:=Rows.made (z:=v.cells) (zs:=cellsOf te.zero) (by rw [hzl,hvs]) (by omega) c1.one c2 n;rw [hvs] at hrw;have hce:E.P.cellsOf e=te.size:=hty.cells hte;have hprod:te.bytes * n≤wide * eN:=zBd hb hn;unfold eN at hn hprod;unfold wide at hprod;have hpi:((i.bytes:Nat):Int) * ((n:Nat):Int)≤281474976710656:=by
  have h3:((te.bytes * n:Nat):Int)≤281474976710656:=by omega
  rw [hby];rw [Int.natCast_mul] at h3;exact h3
 have hrun:=run_make (P:=E.P) w t e i v hu hi hz kl kc (n:Int) (n:Int) (by omega) (by omega) hpi (by omega);simp only [zBQ,hs] at hrun;have hown:(w.alloc (.cells (madeCells v.cells (n * te.size)) e)).ownsRow w.heap.size e (E.P.cellsOf e) (.slice (some ⟨w.heap.size,0,none⟩) n n) (List.replicate n (cellsOf te.zero)).length (madeCells v.cells (n * te.size)).toList:=by
  rw [hce,zBL];refine ⟨by simp [size_madeCells],.inr ⟨w.heap.size,n,_,rfl,zAL _,heap_alloc_new w _,zAL _,by simp only [maxLen]; omega,by simp [size_madeCells],?_⟩⟩;rw [zAc];simp [size_madeCells]
 rw [← hce] at hrw;obtain ⟨h2,hv⟩:=h.own hfresh hrw (iR w _) (by rw [hce] at *; exact hown);have h1:=(h.eval ((he x (by simp [ho,Op.operands])).trans hx)).k_inv;have h2':=(h.eval ((he y (by simp [ho,Op.operands])).trans hy)).k_inv;refine ⟨_,_,_,?_,h2,hv⟩;simp [execOp,ho,h1,h2',hrun]
theorem iS {p q:D→Value→Prop} (hpq:∀ d u,p d u→q d u) {w:World} {e:TypeId} {sz g len c off i:Nat} {cur:Array Value} {xs:List (List D)} {us vs:List Value} {cs ds:List D} (hown:w.ownsRow 0 e sz (.slice (some ⟨g,0,none⟩) len c) xs.length us) (hh:w.heap[g]?=some (.cells cur e (0,0)))
   (hrw:Rows p sz xs us) (hcs:xs[i]?=some cs) (hle:off+ds.length≤cs.length) (q1:ds.length=vs.length) (q2:∀ v∈vs,v.oneCell'=true) (q3:∀ (i:Nat) (d:D) (u:Value),ds[i]?=some d→vs[i]?=some u→p d u) :
   i * sz+off+vs.length≤cur.size∧(w.setRow g (cO cur.toList (i * sz+off) vs).toArray).ownsRow 0 e sz (.slice (some ⟨g,0,none⟩) len c) (xs.set i (cO cs off ds)).length (cO us (i * sz+off) vs)∧Rows q sz (xs.set i (cO cs off ds)) (cO us (i * sz+off) vs):=by
 have hset:=hrw.set hcs hle q1 q2 q3;have hil:i < xs.length:=(List.getElem?_eq_some_iff.1 hcs).1;have hcl:cs.length=sz:=hrw.el cs (zAD hcs);have hul:us.length=xs.length * sz:=hrw.len;have hfit:i * sz+off+vs.length≤us.length:=by
  have:(i+1) * sz≤xs.length * sz:=zAf sz hil
  rw [zAv] at this;omega
 rcases hown.2 with ⟨hbad,_⟩|⟨g',cap,cur',hgv,_,hh',hnc,hcm,hcsz,htake⟩
 · cases hbad
 · simp at hgv;obtain ⟨rfl,rfl,rfl⟩:=hgv;rw [hh] at hh';cases hh';have hcap:xs.length * sz≤cur.size:=by rw [hcsz]; exact zAf sz hnc
   refine ⟨by omega,⟨?_,.inr ⟨g,_,_,by rw [zAS],zAG _,setRow_heap w g _ _ e _ hh,?_,hcm,?_,?_⟩⟩,hset.mono hpq⟩
   · rw [fA,zAS]; exact hul
   · rw [zAS]; exact hnc
   · rw [List.size_toArray,fA,zBD]; exact hcsz
   · rw [zAS,s7 _ _ _ _ (by omega) (by rw [zBD]; exact hcap),htake]
theorem Gf (hty:dW E) {t:TypeId} {x y:Operand} (ho:o.op=.store t x y) {da dx:D} (hx:ev E.gl tm x=some da) (hy:ev E.gl tm y=some dx) {td:TD} (ht:E.ty t=some td)
   (hsz:td.size=(cellsOf dx).length) (htup:sK dx=false) (hk:BG E S da dx fun fp S'=>K fp (put o.dst (.tup []) tm) S' nx):Ok1 E o tm S nx K:=by
 have fin:∀ {cx:Cx} {tm' S' a w w' ρ} {out:Out},(Instr.storeAt t (Act.eval a x) (a.eval y)).run E.P w=.ok () w'→R E cx tm' (ap out S') a w' ρ →
    ∃ w' ρ',(execOp a.eval o).run E.P w=.ok .skip w'∧R E cx tm' (ap out S') a w' ρ'∧∀ n,¬ (nx≤n∧n < nx)→ρ' n=ρ n:=by
  intro cx tm' S' a w w' ρ out hrun hR;exact ⟨w',ρ,by simp [execOp,ho,hrun],hR,fun _ _=>rfl⟩
 unfold BG at hk;split at hk
 · rename_i n off;split at hk
   · rename_i e cs hl;split at hk
     · rename_i hb;have hle:off+(cellsOf dx).length≤cs.length:=zAC hb;rw [Is,kQ _ _ _ hle] at hk;refine Ok1.unit (fp:=⟨[n],[n]⟩) (out:=[(n,some (.box e (cO cs off (cellsOf dx))))]) (nx':=nx) (fun m hm=>by simp [qz hm]) (fun _ h=>h) (zAL _) (fun m h1 h2=>by omega) (fun m=>?_) hk ?_
       · rfl
       · intro cx tm' S' a w ρ he hf h hfresh;have hvx:=(h.eval ((he y (by simp [ho,Op.operands])).trans hy)).vg htup;have hcx:=hvx.cells;have hlen:(a.eval y).cells.toList.length=td.size:=by rw [hsz]; exact hcx.len.symm
         have hl':lk S' n=some (.box e cs):=by rw [hf n (by simp)]; exact hl
         obtain ⟨b,hr,hax⟩:=(h.eval ((he x (by simp [ho,Op.operands])).trans hx)).bp_inv;obtain ⟨b',us,hr',hh,hcl,h1,hc⟩:=h.st _ _ hl';rw [hr] at hr';simp at hr';subst hr';refine fin (w':=w.setRow b (cO us off (a.eval y).cells.toList).toArray) ?_ ?_
         · rw [hax]
           have:=jp hty ht hh (v:=a.eval y) (off:=off) hlen (by simp; omega) hcx.one
           simpa using this
         · refine h.write hl' rfl (g:=b) (by rw [hr]; rfl) (jC w b _) fun hi=>?_;have hcs:Cs w (AvS cx.G S' ρ) ρ cs us:=⟨hcl,h1,hc⟩;have hf:=hcs.fill hcx hle;exact ⟨b,cO us off (a.eval y).cells.toList,hr,setRow_heap w b _ _ e _ hh,hf.len,hf.one,fun i d u p q=>(hf.at_ i d u p q).mono hi (fun _ _ h=>h)⟩
     · exact hk.elim
   · exact hk.elim
 · rename_i n sz i off;split at hk
   · rename_i e xs hl;split at hk
     · rename_i dx' hdx;obtain ⟨hnm,hk⟩:=hk;obtain ⟨te,hte,hsz',cs,hcs,hle,hk⟩:=sq hk;have hz:E.P.cellsOf e=sz:=by rw [hty.cells hte,hsz']
       have hnin:n ∉ nmD dx:=fun hin=>by rw [dH.2 hin] at hnm; cases hnm
       refine Ok1.unit (fp:=⟨n :: nmD dx,n :: nmD dx⟩) (out:=(n,some (.own e (xs.set i (cO cs off (cellsOf dx'))))) :: bI S (nmD dx)) (nx':=nx) (fun m hm=>?_) (fun _ h=>h) (zAL _) (fun m h1 h2=>by omega) (fun m=>?_) hk ?_
       · rw [au] at hm;by_cases e:n=m
         · simp [e]
         · rw [if_neg e,dY] at hm;by_cases hin:m∈nmD dx
           · simp [hin]
           · rw [if_neg hin] at hm; exact absurd rfl hm
       · exact s8 [(n,some (.own e (xs.set i (cO cs off (cellsOf dx')))))] (bI S (nmD dx)) S (qy (nmD dx) S) m
       · intro cx tm' S' a w ρ he hf h hfresh;have hag:∀ m∈nmD dx,lk S' m=lk S m:=fun m hm=>hf m (by simp [hm]);have h':=h.frzs (S0:=S) (nmD dx) hag;have hl':lk (ap (bI S (nmD dx)) S') n=some (.own e xs):=by
          rw [cl,dY,if_neg hnin];simp only;rw [hf n (by simp)];exact hl
         have hvy:=h'.eval ((he y (by simp [ho,Op.operands])).trans hy);have hvi:=pj (S0:=S) h' (jN hag) hvy hdx;obtain ⟨q1,q2,q3⟩:=hvi.cells;have hlen':(a.eval y).cells.toList.length=td.size:=by rw [hsz]; exact ((hvy.vg htup).cells.len).symm
         obtain ⟨g,len,c,hr,hax⟩:=(h.eval ((he x (by simp [ho,Op.operands])).trans hx)).op_inv;obtain ⟨u0,us,hr',hown,hc⟩:=h'.st _ _ hl';have hr2:=dt hr' (cJ hown);rw [hr] at hr2;simp at hr2;subst hr2;rw [hz] at hown hc;have hh:∃ cur,w.heap[g]?=some (.cells cur e (0,0)):=by
          rcases hown.2 with ⟨hbad,_⟩|⟨g',cap,cur,hgv,_,hh,_⟩
          · cases hbad
          · simp at hgv;obtain ⟨rfl,_⟩:=hgv;exact ⟨cur,hh⟩
         obtain ⟨cur,hh⟩:=hh;obtain ⟨w1,w2,_⟩:=iS (q:=fun _ _=>True) (fun _ _ _=>trivial) hown hh hc hcs hle q1 q2 q3;refine fin (w':=w.setRow g (cO cur.toList (i * sz+off) (a.eval y).cells.toList).toArray) ?_ ?_
         · rw [hax];exact jp hty ht hh hlen' (by rw [← hlen']; omega) q2
         · show R E cx tm' (ap [(n,some (.own e (xs.set i (cO cs off (cellsOf dx')))))] (ap (bI S (nmD dx)) S')) a _ ρ
           refine h'.write hl' rfl (g:=g) (by rw [hr']; rfl) (jC w g _) fun hi=>?_;obtain ⟨_,_,w3⟩:=iS (q:=VI (w.setRow g (cO cur.toList (i * sz+off) (a.eval y).cells.toList).toArray) (AvS cx.G (ap [(n,some (.own e (xs.set i (cO cs off (cellsOf dx')))))] (ap (bI S (nmD dx)) S')) ρ)) hi hown hh hc hcs hle q1 q2 q3;exact ⟨_,_,hr',by rw [hz]; exact w2,by rw [hz]; exact w3⟩
     · exact hk.elim
   · rename_i e xs hl;obtain ⟨te,hte,hsz',cs,hcs,hle,hk⟩:=sq hk;have hz:E.P.cellsOf e=sz:=by rw [hty.cells hte,hsz']
     refine Ok1.unit (fp:=⟨[n],[n]⟩) (out:=[(n,some (.row e (xs.set i (cO cs off (cellsOf dx)))))]) (nx':=nx) (fun m hm=>by simp [qz hm]) (fun _ h=>h) (zAL _) (fun m h1 h2=>by omega) (fun m=>rfl) hk ?_;intro cx tm' S' a w ρ he hf h hfresh;have hl':lk S' n=some (.row e xs):=by rw [hf n (by simp)]; exact hl
     have hvx:=(h.eval ((he y (by simp [ho,Op.operands])).trans hy)).vg htup;have hcx:=hvx.cells;have hlen':(a.eval y).cells.toList.length=td.size:=by rw [hsz]; exact hcx.len.symm
     obtain ⟨g,len,c,hr,hax⟩:=(h.eval ((he x (by simp [ho,Op.operands])).trans hx)).op_inv;obtain ⟨u0,us,hr',hown,hc⟩:=h.st _ _ hl';have hr2:=dt hr' (cJ hown);rw [hr] at hr2;simp at hr2;subst hr2;rw [hz] at hown hc;have hh:∃ cur,w.heap[g]?=some (.cells cur e (0,0)):=by
      rcases hown.2 with ⟨hbad,_⟩|⟨g',cap,cur,hgv,_,hh,_⟩
      · cases hbad
      · simp at hgv;obtain ⟨rfl,_⟩:=hgv;exact ⟨cur,hh⟩
     obtain ⟨cur,hh⟩:=hh;obtain ⟨w1,w2,_⟩:=iS (q:=fun _ _=>True) (fun _ _ _=>trivial) hown hh hc hcs hle hcx.len hcx.one hcx.at_;refine fin (w':=w.setRow g (cO cur.toList (i * sz+off) (a.eval y).cells.toList).toArray) ?_ ?_
     · rw [hax];exact jp hty ht hh hlen' (by rw [← hlen']; omega) hcx.one
     · refine h.write hl' rfl (g:=g) (by rw [hr']; rfl) (jC w g _) fun hi=>?_;obtain ⟨_,_,w3⟩:=iS (q:=VA (w.setRow g (cO cur.toList (i * sz+off) (a.eval y).cells.toList).toArray) (AvS cx.G (ap [(n,some (.row e (xs.set i (cO cs off (cellsOf dx)))))] S') ρ) ρ) (fun d u h=>h.mono hi fun _ _ h=>h) hown hh hc hcs hle hcx.len hcx.one hcx.at_;exact ⟨_,_,hr',by rw [hz]; exact w2,by rw [hz]; exact w3⟩
   · rename_i e e2 zs hl;split at hk
     · rename_i a0;split at hk
       · rename_i bb hla;split at hk
         · rename_i hbe;simp only [zAE] at hbe;have hz:=zAI hbe.2;subst hz;obtain ⟨hil,hk⟩:=hk;refine Ok1.unit (fp:=⟨[n,a0],[n]⟩) (out:=[(n,some (.deep e e2 (zs.set i (.nm a0))))]) (nx':=nx) (fun m hm=>by simp [qz hm]) (fun m hm=>by simp at hm; simp [hm]) (zAL _) (fun m h1 h2=>by omega) (fun m=>rfl) hk ?_;intro cx tm' S' a w ρ he hf h hfresh;have hl':lk S' n=some (.deep e e2 zs):=by rw [hf n (by simp)]; exact hl
           have hla':lk S' a0=some bb:=by rw [hf a0 (by simp)]; exact hla
           obtain ⟨u,vs,us,hd⟩:=h.st _ _ hl';obtain ⟨g,len,c,hr,hax⟩:=(h.eval ((he x (by simp [ho,Op.operands])).trans hx)).op_inv;rw [dX hd.name] at hr;simp only [zAV] at hr;subst hr;have hyv:=(h.eval ((he y (by simp [ho,Op.operands])).trans hy)).own_inv;have h1a:(a.eval y).oneCell'=true:=by
            have hsr:=h.st _ _ hla';have hsb:=hbe.1;cases bb with
            | own e3 ys=>
              obtain ⟨ua,ua',hra,hoa,_⟩:=hsr;rw [dt hra (cJ hoa)] at hyv;rw [← zAb hyv];exact pf hoa
            | fr ys=>
              obtain ⟨ua,hra,hva⟩:=hsr;rw [hra] at hyv;rw [← zAb hyv];exact hva.one (by simp)
            | box=>simp [DF] at hsb
            | row=>simp [DF] at hsb
            | deep=>simp [DF] at hsb
           have hcy:(a.eval y).cells.toList=[a.eval y]:=by rw [kO h1a]
           have hh:∃ cur,w.heap[g]?=some (.cells cur e (0,0)):=by
            rcases hd.own.2 with ⟨hbad,_⟩|⟨g',cap,cur,hgv,_,hh,_⟩
            · cases hbad
            · simp at hgv;obtain ⟨rfl,_⟩:=hgv;exact ⟨cur,hh⟩
           obtain ⟨cur,hh⟩:=hh;have hrw:Rows (fun _ _=>True) 1 (zs.map fun _=>[D.junk]) us:=by
            refine ⟨by rw [hd.lu,zAA,Nat.mul_one],fun cs hcs=>?_,hd.one,fun i j cs d p q=>?_⟩
            · obtain ⟨_,_,rfl⟩:=List.mem_map.1 hcs;rfl
            · have hlt:i < us.length:=by have:=(List.getElem?_eq_some_iff.1 p).1; rw [zAA] at this; rw [hd.lu]; exact this
              simp only [zAO,Option.map_eq_some_iff] at p;obtain ⟨_,_,rfl⟩:=p;have hj:j < 1:=(List.getElem?_eq_some_iff.1 q).1
              have:i * 1+j=i:=by omega
              rw [this];exact ⟨us[i],zAB hlt,trivial⟩
           have hown':w.ownsRow 0 e 1 (.slice (some ⟨g,0,none⟩) len c) (zs.map fun _=>[D.junk]).length us:=by rw [zAA]; exact hd.own
           obtain ⟨w1,w2,_⟩:=iS (q:=fun _ _=>True) (fun _ _ _=>trivial) hown' hh hrw (i:=i) (off:=0) (cs:=[D.junk]) (ds:=[D.junk]) (vs:=[a.eval y]) (by rw [zAO,zAB hil]; rfl) (by simp) rfl (by simpa using h1a) (fun _ _ _ _ _=>trivial);have hus:cO us (i * 1+0) [a.eval y]=us.set i (a.eval y):=by simp [cO]
           rw [hus] at w2;rw [zAS,zAA] at w2;refine fin (w':=w.setRow g (cO cur.toList (i * 1+0) [a.eval y]).toArray) ?_ ?_
           · rw [hax]
             have:=jp hty ht hh (v:=a.eval y) (off:=i * 1+0) (by rw [hcy,hsz]; rfl) (by rw [hsz]; simpa [cellsOf] using w1) (by rw [hcy]; simpa using h1a)
             rw [hcy] at this;exact this
           · have an:∀ {j:Nat} {xs:List (List D)},(zs.set i (.nm a0))[j]?=some (.an xs)→j≠i∧zs[j]?=some (.an xs):=by
               intro j xs hj;rw [zAm] at hj;split at hj
               · (try split at hj) <;> cases hj
               · rename_i hne;exact ⟨fun e=>hne e.symm,hj⟩
             refine h.write hl' rfl (g:=g) (hd.bk.2 (.inl rfl)) (jC w g _) (fun hi=>?_) fun x hx=>?_
             · refine ⟨_,vs,us.set i (a.eval y),hd.name,by rw [zAS]; exact hd.lv,by rw [zAS,zAS]; exact hd.lu,by rw [zAS]; exact w2,fun x hx=>?_,fun j z x v h1 h2 h3=>?_,fun j xs v x h1 h2 h3=>hd.apart j xs v x (an h1).2 h2 h3,fun j k xs ys v v' x h1 h2 h3 h4 h5 h6=>hd.dis j k xs ys v v' x (an h1).2 (an h2).2 h3 h4 h5 h6⟩
               · rcases zAw hx with hx|rfl
                 · exact hd.one x hx
                 · exact h1a
               · by_cases e:i=j
                 · subst e;rw [zAm,if_pos rfl,if_pos hil] at h1;rw [zAm,if_pos rfl,if_pos (by rw [hd.lu]; exact hil)] at h2;cases h1;cases h2;exact hyv
                 · rw [zAm,if_neg e] at h1 h2;have hs:=hd.slot j z x v h1 h2 h3;cases z with
                   | an xs=>
                     obtain ⟨e1,zs',e2,e3⟩:=hs;refine ⟨e1,zs',cQ e2 fun y hy=>?_,e3.mono hi⟩;refine setRow_other w g y _ ?_;rintro rfl;exact hd.apart j xs v y h1 h3 hy rfl
                   | nm b=>exact hs
                   | lost=>trivial
             · rcases hx with ⟨u',vs',q1,q2⟩
               obtain ⟨rfl,rfl⟩:=iL hd.name q1;refine ⟨_,_,hd.name,q2.imp id ?_⟩;rintro ⟨j,xs,v,r1,r2,r3⟩;exact ⟨j,xs,v,(an r1).2,r2,r3⟩
         · exact hk.elim
       · exact hk.elim
     · exact hk.elim
   · exact hk.elim
 · exact hk.elim
end
end Go.Ab
namespace Go.Ab
open Go Go.RowKit Go.Lib
section
variable {E:Env} {cx:Cx} {tm:Tm} {S S0:ac} {nx:Nat} {a:Act} {w:World} {ρ:Nat→Option Value} {o:Oper} {K:Kt}
theorem gC (base:Nat) (t ty' e:TypeId) (i:TypeInfo) (size:Nat) {P:Program} (ht:P.underlying t=some (.slice e)) (hi:P.info? e=some i)
   (v:Value) (n:Nat) (xs:List Value) (hown:w.ownsRow base e size v n xs) (c:Nat):(Builtin.append_ #[t,t] ty' #[v,.slice none 0 c]).run P w=.ok v w:=by
 rcases hown.2 with ⟨rfl,rfl⟩|⟨g,cap,cur,rfl,_,_,hnc,_⟩
 · simp [Builtin.append_,run_underlying ht,Go.sizeOf,typeInfo,hi,Builtin.lenOf,Builtin.firstCells]
 · simp [Builtin.append_,run_underlying ht,Go.sizeOf,typeInfo,hi,Builtin.lenOf,Builtin.firstCells,hnc,storeCells]
theorem VI.flat {Av:Nat→Prop} {xs:List (List D)} {v:Value} {sz:Nat} (h:VI w Av (.sl xs) v) (hz:∀ cs∈xs,cs.length=sz) :
   ∃ A n c us,v=.slice A n c∧xs.length=n∧Rows (VI w Av) sz xs us∧(A=none→n=0∧c=0)∧∀ ad,A=some ad→∀ j u,us[j]?=some u→w.cell? (ad.add j)=some u:=by
 obtain ⟨A,n,c,rfl,hn,hnc,hc,hnone,hsome⟩:=h.sl_inv;cases A with
 | none=>
   obtain ⟨rfl,rfl⟩:=hnone rfl;exact ⟨none,n,0,[],rfl,hn,⟨by simp,by simp,by simp,by simp⟩,fun _=>⟨by simpa using hn.symm,rfl⟩,fun ad h=>by cases h⟩
 | some ad=>
   obtain ⟨hb,hav,sz',hsz',hcell⟩:=hsome ad rfl;by_cases hx:xs=[]
   · subst hx;exact ⟨some ad,n,c,[],rfl,hn,⟨by simp,by simp,by simp,by simp⟩,fun h=>(by cases h),fun ad h j u hu=>by simp at hu⟩
   · obtain ⟨c0,r0,rfl⟩:=List.exists_cons_of_ne_nil hx;have hss:sz'=sz:=by rw [← hsz' c0 (by simp),hz c0 (by simp)]
     subst hss;have key:∀ (l:List (List D)) (k:Nat),(∀ cs∈l,cs.length=sz')→(∀ (i j:Nat) (cs:List D) (d:D),l[i]?=some cs→cs[j]?=some d→∃ u,w.cell? (ad.add ((k+i) * sz'+j))=some u∧u.oneCell'=true∧VI w Av d u) →
        ∃ us:List Value,us.length=l.length * sz'∧(∀ u∈us,u.oneCell'=true)∧(∀ j u,us[j]?=some u→w.cell? (ad.add (k * sz'+j))=some u) ∧
          ∀ (i j:Nat) (cs:List D) (d:D),l[i]?=some cs→cs[j]?=some d→∃ u,us[i * sz'+j]?=some u∧VI w Av d u:=by
      intro l
      induction l with
      | nil=>intro k _ _; exact ⟨[],by simp,by simp,by simp,by simp⟩
      | cons c r ih=>
        intro k hl hc;obtain ⟨us,u1,u2,u3,u4⟩:=ih (k+1) (fun cs h=>hl cs (by simp [h])) (fun i j cs d p q=>by
         have:=hc (i+1) j cs d (by simpa using p) q
         have e:k+1+i=k+(i+1):=by omega
         rw [e]; exact this)
        obtain ⟨vs,v1,v2⟩:=ng (fun (j:Nat) (d:D) (u:Value)=>w.cell? (ad.add (k * sz'+j))=some u∧u.oneCell'=true∧VI w Av d u) c (fun j d hd=>by have:=hc 0 j c d rfl hd; simpa using this);have hcl:c.length=sz':=hl c (by simp);have atv:∀ j u,vs[j]?=some u→∃ d,c[j]?=some d:=fun j u hu=>⟨_,zAB (by rw [← v1]; exact (List.getElem?_eq_some_iff.1 hu).1)⟩;refine ⟨vs++us,by simp [v1,u1,hcl,zAv]; omega,fun u hu=>?_,fun j u hu=>?_,fun i j cs d p q=>?_⟩
        · rcases zAu.1 hu with h|h
          · obtain ⟨j,hj⟩:=List.mem_iff_getElem?.1 h;obtain ⟨d,hd⟩:=atv j u hj;exact (v2 j d u hd hj).2.1
          · exact u2 u h
        · by_cases hj:j < vs.length
          · rw [zAU hj] at hu;obtain ⟨d,hd⟩:=atv j u hu;exact (v2 j d u hd hu).1
          · rw [zAW (by omega)] at hu
            have:=u3 _ u hu
            have e:(k+1) * sz'+(j - vs.length)=k * sz'+j:=by rw [zAv,v1,hcl]; omega
            rw [e] at this;exact this
        · cases i with
          | zero=>
            simp at p;subst p;have hj:j < vs.length:=by rw [v1]; exact (List.getElem?_eq_some_iff.1 q).1
            refine ⟨vs[j],?_,(v2 j d _ q (zAB hj)).2.2⟩;rw [zBi,zBK,zAU hj]
            simp
          | succ i=>
            obtain ⟨u,e1,e2⟩:=u4 i j cs d (by simpa using p) q;refine ⟨u,?_,e2⟩;rw [zAW (by rw [v1,hcl,zAv]; omega)];rw [← e1];congr 1
            rw [v1,hcl,zAv];omega
     obtain ⟨us,u1,u2,u3,u4⟩:=key (c0 :: r0) 0 hz (fun i j cs d p q=>by simpa using hcell i j cs d p q);refine ⟨some ad,n,c,us,rfl,hn,⟨u1,hz,u2,u4⟩,fun h=>(by cases h),fun ad' h j u hu=>?_⟩;cases h;simpa using u3 j u hu
theorem xC {v:Value} {A:Option Addr} {n c:Nat} (hv:v=.slice A n c):v.ownBlock=be v:=by
 subst hv;cases A <;> rfl
theorem s9 {P:Program} (w:World) (base:Nat) (t ty e:TypeId) (i:TypeInfo) (z:Value) (size bytes:Nat) (ht:P.underlying t=some (.slice e)) (hi:P.info? e=some i) (hz:i.zero=some z)
   (hsize:i.size=size) (hby:i.bytes=bytes) (hzs:z.cells.size=size) (hsz:0 < size) (v:Value) (n:Nat) (xs:List Value) (hown:w.ownsRow base e size v n xs) (hbase:base≤w.heap.size) (hn:n≤eN) (hb:bytes≤wide)
   {Av:Nat→Prop} {ys:List (List D)} {src:Value} (hy:VI w Av (.sl ys) src) (hys:∀ cs∈ys,cs.length=size) (hyl:ys.length≤eN) :
   ∃ v' w' bA,(Builtin.append_ #[t,t] ty #[v,src]).run P w=.ok v' w'∧w'.ownsRow base e size v' (n+ys.length) (xs++bA)∧Rows (VI w Av) size ys bA∧Fr (fun x=>be v=some x) w w'∧(be v'=be v∨be v'=some w.heap.size):=by
 obtain ⟨A,m,c,bA,rfl,hml,hrw,hnone,hsome⟩:=hy.flat hys;have hform:∃ A n c,v=.slice A n c:=by rcases hown.2 with ⟨rfl,_⟩|⟨g,cap,cur,rfl,_⟩ <;> exact ⟨_,_,_,rfl⟩
 obtain ⟨A0,n0,c0,hv0⟩:=hform;have hblk:v.ownBlock=be v:=xC hv0;unfold eN at hn hyl;unfold wide at hb;cases A with
 | none=>
   obtain ⟨rfl,rfl⟩:=hnone rfl
   have:ys=[]:=List.eq_nil_of_length_eq_zero hml
   subst this;have hn0:bA=[]:=List.eq_nil_of_length_eq_zero (by rw [hrw.len]; simp);subst hn0;exact ⟨v,w,[],gC base t ty e i size ht hi v n xs hown 0,by simpa using hown,hrw,Fr.refl _ _,.inl rfl⟩
 | some ad=>
   have hbytes:(n+m) * bytes≤140737488355328:=by
    have:=zBd (show n+m≤4294967296 by omega) hb
    omega
   obtain ⟨v',w',e1,e2,e3,_,e5⟩:=run_append_own_at (P:=P) w base t ty e i z size bytes ht hi hz hsize hby hzs hsz v n xs hown ad m c bA
    (by rw [hrw.len,hml]) (hsome ad rfl) hrw.one (by simp only [maxLen]; omega) hbytes hbase
   have hform':v'.ownBlock=be v':=by
    rcases e2.2 with ⟨rfl,_⟩|⟨g,cap,cur,rfl,_⟩ <;> rfl
   refine ⟨v',w',bA,e1,by rw [hml]; exact e2,hrw,⟨e3.os,e3.tape,e3.output,e3.size,fun k hk hne=>e3.block k hk (fun e=>hne (by rw [← hblk,← e]))⟩,?_⟩;rw [← hform',← hblk];exact e5
theorem th {P:Program} (w:World) (base:Nat) (t u ty e:TypeId) (i:TypeInfo) (ht:P.underlying t=some (.slice e)) (hu:P.underlying u=some .string) (hi:P.info? e=some i) (hz:i.zero=some (.int .u8 0))
   (hsize:i.size=1) (hby:i.bytes=1) (v:Value) (n:Nat) (xs:List Value) (hown:w.ownsRow base e 1 v n xs) (hbase:base≤w.heap.size) (hn:n≤eN) {l:List UInt8} (hl:l.length≤eN) :
   ∃ v' w',(Builtin.append_ #[t,u] ty #[v,.string ⟨l.toArray⟩]).run P w=.ok v' w'∧w'.ownsRow base e 1 v' (n+l.length) (xs++l.map fun c=>.int .u8 c.toNat)∧Fr (fun x=>be v=some x) w w'∧(be v'=be v∨be v'=some w.heap.size):=by
 unfold eN at hn hl;have hss:(⟨l.toArray⟩:ByteArray).size=l.length:=by simp [ByteArray.size]
 have hcells:strCells ⟨l.toArray⟩=l.map fun c=>.int .u8 c.toNat:=by simp [strCells]
 have hform:∃ A n c,v=.slice A n c:=by rcases hown.2 with ⟨rfl,_⟩|⟨g,cap,cur,rfl,_⟩ <;> exact ⟨_,_,_,rfl⟩
 obtain ⟨A0,n0,c0,hv0⟩:=hform;have hblk:v.ownBlock=be v:=xC hv0;rcases hown.2 with ⟨hv,hn0⟩|⟨g,cap,cur,hv,hbg,hg,hnc,hcm,hcs,htake⟩
 · -- a nil slice
   have hown':w.ownsRow w.heap.size e 1 v n xs:=⟨hown.1,.inl ⟨hv,hn0⟩⟩;obtain ⟨v',w',e1,e2,e3,_⟩:=run_append_own_string (P:=P) w w.heap.size t u ty e i ht hu hi hz hsize hby v n xs hown' ⟨l.toArray⟩ (by simp only [maxLen,hss]; omega) (by rw [hss]; omega) (zAL _);obtain ⟨v2,w2,f1,f2,f3,_⟩:=run_append_own_string (P:=P) w base t u ty e i ht hu hi hz hsize hby v n xs hown ⟨l.toArray⟩ (by simp only [maxLen,hss]; omega) (by rw [hss]; omega) hbase;rw [e1] at f1;cases f1;rw [hss,hcells] at f2;refine ⟨v',w',e1,f2,⟨e3.os,e3.tape,e3.output,e3.size,fun k hk hne=>e3.block k hk (fun e=>hne (by rw [← hblk,← e]))⟩,?_⟩;rcases e2.2 with ⟨h1,_⟩|⟨g,cap,cur,h1,hg,hh,_⟩
   · exact .inl (by rw [h1,hv])
   · -- the block is new,and it is the only new one
     have hrun:(be v'=some g):=by rw [h1]; rfl
     by_cases hl0:l.length=0
     · rw [hss] at e2;have hr:=e1;have hl1:l=[]:=List.eq_nil_of_length_eq_zero hl0;subst hl1;have hf:=run_firstCells_string (P:=P) w 1 (⟨([]:List UInt8).toArray⟩:ByteArray);subst hv;have hrun0:(Builtin.append_ #[t,u] ty #[.slice none 0 0,.string ⟨([]:List UInt8).toArray⟩]).run P w=.ok (.slice none 0 0) w:=by
        have hz0:(⟨([]:List UInt8).toArray⟩:ByteArray).size=0:=rfl;rw [hz0] at hf;simp [Builtin.append_,run_underlying ht,run_underlying hu,sizeOf,typeInfo,hi,hsize,Builtin.lenOf,hz0,hf]
       rw [hrun0] at hr;cases hr;cases h1
     · subst hv;have hr:=run_append_nil_string (P:=P) w t u ty e i (.int .u8 0) ht hu hi hz ⟨l.toArray⟩ (by rw [hss]; omega) (by rw [hss]; omega) (by rw [hby,hss]; omega);rw [hr] at e1;cases e1;exact .inr rfl
 · obtain ⟨v2,w2,f1,f2,f3,_⟩:=run_append_own_string (P:=P) w base t u ty e i ht hu hi hz hsize hby v n xs hown ⟨l.toArray⟩ (by simp only [maxLen,hss]; omega) (by rw [hss]; omega) hbase;have f1':=f1;rw [hss,hcells] at f2;refine ⟨v2,w2,f1,f2,⟨f3.os,f3.tape,f3.output,f3.size,fun k hk hne=>f3.block k hk (fun e=>hne (by rw [← hblk,← e]))⟩,?_⟩;have hxl:xs.length=n:=by simpa using hown.1
   subst hv;by_cases hroom:n+l.length≤cap
   · have hr:=run_append_room_string (P:=P) w t u ty e i ht hu hi hsize g n cap cur hg ⟨l.toArray⟩ (by rw [hss]; exact hroom) (by rw [hss]; omega);rw [hr] at f1';cases f1';exact .inl rfl
   · have holds:∀ j u,xs[j]?=some u→w.cell? ((⟨g,0,none⟩:Addr).add j)=some u:=hown.cells (g:=g) rfl;have hr:=run_append_grow_string (P:=P) w t u ty e i (.int .u8 0) ht hu hi hz ⟨g,0,none⟩ n cap xs (by rw [hsize]; simpa using hxl) holds ⟨l.toArray⟩ (by rw [hss]; omega) (by rw [hss]; omega) (by rw [hby]; exact growslice_fits (by rw [hss]; omega) (by rw [hss]; omega));rw [hr] at f1';cases f1';exact .inr rfl
def gone (ms:List Nat):Out:=ms.map fun m=>(m,none)
theorem jq:∀ (ms:List Nat) (t:Nat),lk (gone ms) t=if t∈ms then some none else none
 | [],t=>by simp [gone,lk]
 | m :: r,t=>by
   have ih:=jq r t;simp only [gone,List.map_cons,au] at ih ⊢;by_cases e:m=t
   · simp [e]
   · rw [if_neg e,ih];simp [Ne.symm e]
theorem R.swaps (h:R E cx tm S a w ρ) (hn:ρ nx=none) {ms:List Nat} {b':Blk} (hl:∀ m∈ms,∃ b,lk S m=some b∧de b=true) {v:Value} {w':World}
   (hf:Fr (fun x=>∃ m b,m∈ms∧lk S m=some b∧de b=true∧bk b (ρ m) x) w w') (hv:∀ x,bk b' (some v) x→(∃ m b,m∈ms∧lk S m=some b∧de b=true∧bk b (ρ m) x)∨w.heap.size≤x)
   (hs:(∀ d u,VI w (AvS cx.G S ρ) d u→VI w' (AvS cx.G (ap ((nx,some b') :: gone ms) S) (aK ρ nx v)) d u)→(∀ t u,ρ t=some u→aK ρ nx v t=some u)→SR E.P w' (AvS cx.G (ap ((nx,some b') :: gone ms) S) (aK ρ nx v)) (aK ρ nx v) nx b') :
   R E cx tm (ap ((nx,some b') :: gone ms) S) a w' (aK ρ nx v):=by
 have hne:∀ m∈ms,m≠nx:=by
  rintro m hm rfl;obtain ⟨b,hb,_⟩:=hl m hm;obtain ⟨um,hum⟩:=h.named hb;rw [hn] at hum; cases hum
 have ext:∀ t u,ρ t=some u→aK ρ nx v t=some u:=by
  intro t u ht
  have:t≠nx:=by rintro rfl; rw [hn] at ht; cases ht
  rw [aL v this]; exact ht
 have lo:∀ t c,lk ((nx,some b') :: gone ms) t=some (some c)→t=nx∧c=b':=by
  intro t c ht;rw [au] at ht;by_cases e:nx=t
  · rw [if_pos e] at ht; cases ht; exact ⟨e.symm,rfl⟩
  · rw [if_neg e,jq] at ht;split at ht <;> cases ht
 have here:∀ m∈ms,lk ((nx,some b') :: gone ms) m≠none:=by
  intro m hm;rw [au,if_neg (Ne.symm (hne m hm)),jq,if_pos hm]; simp
 have old:∀ x,(∃ m b,m∈ms∧lk S m=some b∧de b=true∧bk b (ρ m) x)→∃ m b,lk ((nx,some b') :: gone ms) m≠none∧lk S m=some b∧de b=true∧bk b (ρ m) x:=fun x ⟨m,b,h1,h2,h3,h4⟩=>⟨m,b,here m h1,h2,h3,h4⟩;refine h.turn ⟨hf.weaken old,ext,fun t c ht hv' x hx=>?_,fun t t' c c' x h1 h2 _ _ _ _=>?_,fun hi t c ht=>?_⟩
 · obtain ⟨rfl,rfl⟩:=lo t c ht;rw [aw] at hx;rcases hv x hx with h1|h1
   · exact .inr (old x h1)
   · exact .inl h1
 · rw [(lo t c h1).1,(lo t' c' h2).1]
 · obtain ⟨rfl,rfl⟩:=lo t c ht;exact hs hi ext
theorem R.swap (h:R E cx tm S a w ρ) (hn:ρ nx=none) {m:Nat} {b b':Blk} (hl:lk S m=some b) (hb:de b=true) {v:Value} {w':World}
   (hf:Fr (fun x=>bk b (ρ m) x) w w') (hv:∀ x,bk b' (some v) x→bk b (ρ m) x∨w.heap.size≤x)
   (hs:(∀ d u,VI w (AvS cx.G S ρ) d u→VI w' (AvS cx.G (ap [(nx,some b'),(m,none)] S) (aK ρ nx v)) d u)→SR E.P w' (AvS cx.G (ap [(nx,some b'),(m,none)] S) (aK ρ nx v)) (aK ρ nx v) nx b') :
   R E cx tm (ap [(nx,some b'),(m,none)] S) a w' (aK ρ nx v):=
 h.swaps hn (ms:=[m]) (fun m' hm=>⟨b,by rw [List.mem_singleton.1 hm]; exact hl,hb⟩) (hf.weaken fun x hx=>⟨m,b,by simp,hl,hb,hx⟩) (fun x hx=>(hv x hx).imp (fun hx=>⟨m,b,by simp,hl,hb,hx⟩) id) fun hi _=>hs hi
theorem fN {x y:Operand} {ts:Array TypeId} (ho:o.op=.call { callee:=.builtin .append,args:=#[x,y],argTypes:=ts }) {v:Value} {w':World}
   (hrun:(Builtin.append_ ts o.type #[a.eval x,a.eval y]).run E.P w=.ok v w'):(execOp a.eval o).run E.P w=.ok (.value v) w':=by
 simp only [execOp,ho,resolve,invoke,builtin,Sem.run_bind,Sem.run_pure,Result.andThen_ok,List.map_toArray,List.map_cons,List.map_nil,hrun]
theorem VI.of_own {w:World} {Av:Nat→Prop}:∀ (l:List UInt8),Rows (VI w Av) 1 (bh l) (l.map fun c=>.int .u8 c.toNat):=by
 intro l;refine ⟨by simp [bh],fun cs hcs=>?_,fun u hu=>?_,fun i j cs d hc hd=>?_⟩
 · simp only [bh,List.mem_map] at hcs;obtain ⟨c,_,rfl⟩:=hcs;rfl
 · simp only [List.mem_map] at hu;obtain ⟨c,_,rfl⟩:=hu;rfl
 · simp only [bh,zAO,Option.map_eq_some_iff] at hc;obtain ⟨c,h1,rfl⟩:=hc;cases j with
   | zero=>
     simp at hd;subst hd;exact ⟨.int .u8 c.toNat,by simp [h1],.k _ _⟩
   | succ j=>simp at hd
theorem vX (hty:dW E) {t t':TypeId} {x y:Operand} (ho:o.op=.call { callee:=.builtin .append,args:=#[x,y],argTypes:=#[t,t'] })
   {dx dy dy':D} (hx:ev E.gl tm x=some dx) (hy:ev E.gl tm y=some dy') (hyy:(t'=t∧dy=dy')∨(∃ l td',dy'=.s l∧dy=.sl (bh l)∧E.ty t'=some td'∧td'.kind=.str))
   (hk:sk E t S nx dx dy fun d fp S' nx'=>K fp (put o.dst d tm) S' nx')
   (hbyte:t'≠t→∀ td e te,E.ty t=some td→td.kind=.slice e→E.ty e=some te→sS te=true):Ok1 E o tm S nx K:=by
 unfold sk at hk;obtain ⟨td,htd,hk⟩:=br hk;split at hk
 · rename_i e hkind;obtain ⟨te,hte,hk⟩:=br hk;have hu:E.P.underlying t=some (.slice e):=by
    have:=hty.kind htd
    rw [hkind] at this;exact ci this
   obtain ⟨i,z,hi,hs,hby,hz,hpos,hzl,hzc,_⟩:=hty.info hte;have hzs:z.cells.size=te.size:=by have:=(dn (w:=default) (Av:=fun _=>False) (ρ:=fun _=>none) hzc).1.len; rw [hzl] at this; simpa using this.symm
   have hce:E.P.cellsOf e=te.size:=hty.cells hte;unfold HB at hk;split at hk
   · rename_i ys hys;obtain ⟨hyl,hwide,hcs,hk⟩:=hk;have run:∀ {cx:Cx} {tm':Tm} {S1:ac} {a:Act} {w:World} {ρ:Nat→Option Value} (base:Nat) (v:Value) (n:Nat) (us:List Value),R E cx tm' S1 a w ρ→(∀ x∈o.op.operands,ev E.gl tm' x=ev E.gl tm x)→(∀ t∈nmD dy,∀ xs,(lk S t).bind imB=some xs→lk S1 t=some (.fr xs)) →
        a.eval x=v→w.ownsRow base e te.size v n us→base≤w.heap.size→n≤eN →
        ∃ v' w' bA,(execOp a.eval o).run E.P w=.ok (.value v') w'∧w'.ownsRow base e te.size v' (n+ys.length) (us++bA)∧Rows (VI w (AvS cx.G S1 ρ)) te.size ys bA∧Fr (fun x=>be v=some x) w w'∧(be v'=be v∨be v'=some w.heap.size):=by
      intro cx tm' S1 a w ρ base v n us h he hfr hax hown hbase hn;have hey:=h.eval ((he y (by simp [ho,Op.operands,Call.operands])).trans hy);rcases hyy with ⟨htt,hdd⟩|⟨l,td',hdl,hdd,htd',hk'⟩
      · subst hdd;subst htt;have hvi:=pj (S0:=S) h hfr hey hys;obtain ⟨v',w',bA,e1,e2,e3,e4,e5⟩:=s9 (P:=E.P) w base t' o.type e i z te.size te.bytes hu hi hz hs hby hzs hpos v n us hown hbase hn hwide hvi hcs hyl;rw [← hax] at e1;exact ⟨v',w',bA,fN ho e1,e2,e3,e4,e5⟩
      · subst hdd;subst hdl;have hys':ys=bh l:=by simp [fJ,cR] at hys; exact hys.symm
        subst hys';have hu':E.P.underlying t'=some .string:=by
         have:=hty.kind htd'
         rw [hk'] at this;exact jO this
        have htt:t'≠t:=by rintro rfl; rw [hu] at hu'; cases hu'
        obtain ⟨b2,b3⟩:te.bytes=1∧te.zero=.k .u8 0:=by
         have:=hbyte htt td e te htd hkind hte
         unfold sS at this;split at this
         · rename_i h2;exact ⟨zAI this,h2⟩
         · cases this
        have hz':i.zero=some (.int .u8 0):=by
         rw [hz];rw [b3] at hzc;cases z <;> simp [lJ,om] at hzc;rw [← hzc.1,← hzc.2]
        have hsz1:te.size=1:=by rw [← hzl,b3]; rfl
        have hll:l.length≤eN:=by simpa [bh] using hyl
        rw [hsz1] at hown hs;obtain ⟨v',w',e1,e2,e4,e5⟩:=th (P:=E.P) w base t t' o.type e i hu hu' hi hz' hs (by rw [hby,b2]) v n us hown hbase hn hll;rw [← hax] at e1;have hyv:a.eval y=.string ⟨l.toArray⟩:=hey.s_inv;rw [hsz1];refine ⟨v',w',_,fN ho (by rw [hyv]; exact e1),?_,VI.of_own l,e4,e5⟩;have hbl:(bh l).length=l.length:=by simp [bh]
        rw [hbl];exact e2
     cases dx with
     | nil=>
       refine Ok1.frzNew (ns:=nmD dy) (fun _ h=>h) hk fun cx tm' S' a w ρ he hag h h' hfresh=>?_;have hvx:a.eval x=.slice none 0 0:=(h.eval ((he x (by simp [ho,Op.operands,Call.operands])).trans hx)).nil_inv;obtain ⟨v',w',bA,e1,e2,e3,e4,e5⟩:=run w.heap.size (.slice none 0 0) 0 [] h' he (jN hag) hvx (World.ownsRow_nil _ _ _ _) (zAL _) (zAG _);rw [← hce] at e3 e2;obtain ⟨h2,hv⟩:=h'.own hfresh e3 (e4.weaken fun x hx=>by simp [be] at hx) (by simpa using e2);exact ⟨v',w',v',e1,h2,hv⟩
     | own m0=>
       simp only at hk;split at hk
       · rename_i e' xs hl;split at hk
         · rename_i hbb;simp only [zAE] at hbb;obtain ⟨hb1,hb2⟩:=hbb;obtain ⟨hxl,hk⟩:=hk;have hee:e=e':=zAI hb1;subst hee;have hnin:m0 ∉ nmD dy:=fun hin=>by rw [dH.2 hin] at hb2; cases hb2
           refine Ok1.val (fp:=⟨nx :: m0 :: nmD dy,nx :: m0 :: nmD dy⟩) (out:=[(nx,some (.own e (xs++ys))),(m0,none)]++bI S (nmD dy)) (nx':=nx+1) (d:=.own nx) (fun n h=>?_) (fun n h=>h) (Nat.le_succ _) (fun n h1 h2=>by simp; omega) (fun n=>?_) hk ?_
           · simp only [zAh,zBB,au] at h;by_cases e1:nx=n
             · simp [e1]
             · by_cases e2:m0=n
               · simp [e2]
               · rw [if_neg e1,if_neg e2,dY] at h;by_cases hin:n∈nmD dy
                 · simp [hin]
                 · rw [if_neg hin] at h; exact absurd rfl h
           · have key:∀ n,lk (del m0 (frz (nmD dy) S)) n=lk (ap ([(m0,none)]++bI S (nmD dy)) S) n:=by
               intro n
               have:=s8 [(m0,none)] (bI S (nmD dy)) S (qy (nmD dy) S) n
               rw [← this];rfl
             exact oq key n
           · intro cx tm' S' a w ρ he hf h hfr;have hag:∀ m∈nmD dy,lk S' m=lk S m:=fun m hm=>hf m (by simp [hm]);have h':=h.frzs (S0:=S) (nmD dy) hag;have hl':lk (ap (bI S (nmD dy)) S') m0=some (.own e xs):=by
              rw [cl,dY,if_neg hnin];simp only;rw [hf m0 (by simp)];exact hl
             obtain ⟨v,us,hr,hown,hc⟩:=h'.st _ _ hl';have hvx:a.eval x=v:=by
              have:=(h'.eval ((he x (by simp [ho,Op.operands,Call.operands])).trans hx)).own_inv
              rw [dt hr (cJ hown)] at this;exact (zAb this).symm
             rw [hce] at hown hc;obtain ⟨v',w',bA,e1,e2,e3,e4,e5⟩:=run 0 v xs.length us h' he (jN hag) hvx hown (zAG _) hxl;have hbind:(ρ m0).bind be=be v:=by rw [hr]; rfl
             have hfresh:=hfr nx (zAL _) (Nat.lt_succ_self _);have h2:=h'.swap hfresh (b':=.own e (xs++ys)) (v:=v') hl' rfl (w':=w') (by show Fr (fun x=>(ρ m0).bind be=some x) w w'; rw [hbind]; exact e4) (fun x hx=>by
              show (ρ m0).bind be=some x∨w.heap.size≤x
              replace hx:be v'=some x:=hx
              rw [hbind];rcases e5 with e5|e5
              · exact .inl (by rw [← e5]; exact hx)
              · rw [e5] at hx;simp at hx;omega) (fun hi'=>⟨v',us++bA,aw _ _,by rw [hce,zAT]; exact e2,by rw [hce]; exact (hc.append e3).mono hi'⟩)
             have h1':v'.oneCell'=true:=by rcases e2.2 with ⟨rfl,_⟩|⟨g,cap,cur,rfl,_⟩ <;> rfl
             refine ⟨v',w',_,e1,by rw [kP]; exact h2,.gr (.atom (.own (dt (aw _ _) (cJ e2)) h1')),fun n hne=>aL v' (by rintro rfl; exact hne ⟨zAL _,Nat.lt_succ_self _⟩)⟩
         · exact hk.elim
       · exact hk.elim
     | _=>exact hk.elim
   · exact hk.elim
 · exact hk.elim
end
end Go.Ab
