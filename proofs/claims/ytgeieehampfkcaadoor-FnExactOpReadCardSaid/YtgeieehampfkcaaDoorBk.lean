/- An abstract reading of the elaborated code. Part 11: appends, slices of slices, least and greatest, function values. -/
import Derived.Test.YtgeieehampfkcaaDoorBj
import Derived.Lib.AppendStr
namespace Go.Ab
open Go Go.RowKit Go.Lib

section
variable {E : Env} {cx : Cx} {tm : Tm} {S S0 : Store} {nx : Nat} {a : Act} {w : World} {ρ : Nat → Option Value} {o : Oper} {K : Kt}

theorem run_append_of_nil' (base : Nat) (t ty' e : TypeId) (i : TypeInfo) (size : Nat) {P : Program} (ht : P.underlying t = some (.slice e)) (hi : P.info? e = some i)
    (v : Value) (n : Nat) (xs : List Value) (hown : w.ownsRow base e size v n xs) (c : Nat) : (Builtin.append_ #[t, t] ty' #[v, .slice none 0 c]).run P w = .ok v w := by
  rcases hown.2 with ⟨rfl, rfl⟩ | ⟨g, cap, cur, rfl, _, _, hnc, _⟩
  · simp [Builtin.append_, run_underlying ht, Go.sizeOf, typeInfo, hi, Builtin.lenOf, Builtin.firstCells]
  · simp [Builtin.append_, run_underlying ht, Go.sizeOf, typeInfo, hi, Builtin.lenOf, Builtin.firstCells, hnc, storeCells]

theorem VI.flat {Av : Nat → Prop} {xs : List (List D)} {v : Value} {sz : Nat} (h : VI w Av (.sl xs) v) (hz : ∀ cs ∈ xs, cs.length = sz) :
    ∃ A n c us, v = .slice A n c ∧ xs.length = n ∧ Rows (VI w Av) sz xs us ∧ (A = none → n = 0 ∧ c = 0) ∧ ∀ ad, A = some ad → ∀ j u, us[j]? = some u → w.cell? (ad.add j) = some u := by
  obtain ⟨A, n, c, rfl, hn, hnc, hc, hnone, hsome⟩ := h.sl_inv
  cases A with
  | none =>
    obtain ⟨rfl, rfl⟩ := hnone rfl
    exact ⟨none, n, 0, [], rfl, hn, ⟨by simp, by simp, by simp, by simp⟩, fun _ => ⟨by simpa using hn.symm, rfl⟩, fun ad h => by cases h⟩
  | some ad =>
    obtain ⟨hb, hav, sz', hsz', hcell⟩ := hsome ad rfl
    by_cases hx : xs = []
    · subst hx
      exact ⟨some ad, n, c, [], rfl, hn, ⟨by simp, by simp, by simp, by simp⟩, fun h => (by cases h), fun ad h j u hu => by simp at hu⟩
    · obtain ⟨c0, r0, rfl⟩ := List.exists_cons_of_ne_nil hx
      have hss : sz' = sz := by rw [← hsz' c0 (by simp), hz c0 (by simp)]
      subst hss
      -- cell by cell
      have key : ∀ (l : List (List D)) (k : Nat), (∀ cs ∈ l, cs.length = sz') → (∀ (i j : Nat) (cs : List D) (d : D), l[i]? = some cs → cs[j]? = some d → ∃ u, w.cell? (ad.add ((k + i) * sz' + j)) = some u ∧ u.oneCell' = true ∧ VI w Av d u) →
          ∃ us : List Value, us.length = l.length * sz' ∧ (∀ u ∈ us, u.oneCell' = true) ∧ (∀ j u, us[j]? = some u → w.cell? (ad.add (k * sz' + j)) = some u) ∧
            ∀ (i j : Nat) (cs : List D) (d : D), l[i]? = some cs → cs[j]? = some d → ∃ u, us[i * sz' + j]? = some u ∧ VI w Av d u := by
        intro l
        induction l with
        | nil => intro k _ _; exact ⟨[], by simp, by simp, by simp, by simp⟩
        | cons c r ih =>
          intro k hl hc
          obtain ⟨us, u1, u2, u3, u4⟩ := ih (k + 1) (fun cs h => hl cs (by simp [h])) (fun i j cs d p q => by
            have := hc (i + 1) j cs d (by simpa using p) q
            have e : k + 1 + i = k + (i + 1) := by omega
            rw [e]; exact this)
          obtain ⟨vs, v1, v2⟩ := list_of (fun (j : Nat) (d : D) (u : Value) => w.cell? (ad.add (k * sz' + j)) = some u ∧ u.oneCell' = true ∧ VI w Av d u) c (fun j d hd => by have := hc 0 j c d rfl hd; simpa using this)
          have hcl : c.length = sz' := hl c (by simp)
          have atv : ∀ j u, vs[j]? = some u → ∃ d, c[j]? = some d := fun j u hu => ⟨_, List.getElem?_eq_getElem (by rw [← v1]; exact (List.getElem?_eq_some_iff.1 hu).1)⟩
          refine ⟨vs ++ us, by simp [v1, u1, hcl, Nat.add_mul]; omega, fun u hu => ?_, fun j u hu => ?_, fun i j cs d p q => ?_⟩
          · rcases List.mem_append.1 hu with h | h
            · obtain ⟨j, hj⟩ := List.mem_iff_getElem?.1 h
              obtain ⟨d, hd⟩ := atv j u hj
              exact (v2 j d u hd hj).2.1
            · exact u2 u h
          · by_cases hj : j < vs.length
            · rw [List.getElem?_append_left hj] at hu
              obtain ⟨d, hd⟩ := atv j u hu
              exact (v2 j d u hd hu).1
            · rw [List.getElem?_append_right (by omega)] at hu
              have := u3 _ u hu
              have e : (k + 1) * sz' + (j - vs.length) = k * sz' + j := by rw [Nat.add_mul, v1, hcl]; omega
              rw [e] at this
              exact this
          · cases i with
            | zero =>
              simp at p
              subst p
              have hj : j < vs.length := by rw [v1]; exact (List.getElem?_eq_some_iff.1 q).1
              refine ⟨vs[j], ?_, (v2 j d _ q (List.getElem?_eq_getElem hj)).2.2⟩
              rw [Nat.zero_mul, Nat.zero_add, List.getElem?_append_left hj]
              simp
            | succ i =>
              obtain ⟨u, e1, e2⟩ := u4 i j cs d (by simpa using p) q
              refine ⟨u, ?_, e2⟩
              rw [List.getElem?_append_right (by rw [v1, hcl, Nat.add_mul]; omega)]
              rw [← e1]
              congr 1
              rw [v1, hcl, Nat.add_mul]
              omega
      obtain ⟨us, u1, u2, u3, u4⟩ := key (c0 :: r0) 0 hz (fun i j cs d p q => by simpa using hcell i j cs d p q)
      refine ⟨some ad, n, c, us, rfl, hn, ⟨u1, hz, u2, u4⟩, fun h => (by cases h), fun ad' h j u hu => ?_⟩
      cases h
      simpa using u3 j u hu

theorem blk_own {v : Value} {A : Option Addr} {n c : Nat} (hv : v = .slice A n c) : v.ownBlock = blkOf v := by
  subst hv
  cases A <;> rfl

/-- what is appended, to a row of the call's own, or to a nil slice -/
theorem append_run {P : Program} (w : World) (base : Nat) (t ty e : TypeId) (i : TypeInfo) (z : Value) (size bytes : Nat) (ht : P.underlying t = some (.slice e)) (hi : P.info? e = some i) (hz : i.zero = some z)
    (hsize : i.size = size) (hby : i.bytes = bytes) (hzs : z.cells.size = size) (hsz : 0 < size) (v : Value) (n : Nat) (xs : List Value) (hown : w.ownsRow base e size v n xs) (hbase : base ≤ w.heap.size) (hn : n ≤ room) (hb : bytes ≤ wide)
    {Av : Nat → Prop} {ys : List (List D)} {src : Value} (hy : VI w Av (.sl ys) src) (hys : ∀ cs ∈ ys, cs.length = size) (hyl : ys.length ≤ room) :
    ∃ v' w' news, (Builtin.append_ #[t, t] ty #[v, src]).run P w = .ok v' w' ∧ w'.ownsRow base e size v' (n + ys.length) (xs ++ news) ∧ Rows (VI w Av) size ys news ∧ Fr (fun x => blkOf v = some x) w w' ∧ (blkOf v' = blkOf v ∨ blkOf v' = some w.heap.size) := by
  obtain ⟨A, m, c, news, rfl, hml, hrw, hnone, hsome⟩ := hy.flat hys
  have hform : ∃ A n c, v = .slice A n c := by rcases hown.2 with ⟨rfl, _⟩ | ⟨g, cap, cur, rfl, _⟩ <;> exact ⟨_, _, _, rfl⟩
  obtain ⟨A0, n0, c0, hv0⟩ := hform
  have hblk : v.ownBlock = blkOf v := blk_own hv0
  unfold room at hn hyl
  unfold wide at hb
  cases A with
  | none =>
    obtain ⟨rfl, rfl⟩ := hnone rfl
    have : ys = [] := List.eq_nil_of_length_eq_zero hml
    subst this
    have hn0 : news = [] := List.eq_nil_of_length_eq_zero (by rw [hrw.len]; simp)
    subst hn0
    exact ⟨v, w, [], run_append_of_nil' base t ty e i size ht hi v n xs hown 0, by simpa using hown, hrw, Fr.refl _ _, .inl rfl⟩
  | some ad =>
    have hbytes : (n + m) * bytes ≤ 140737488355328 := by
      have := Nat.mul_le_mul (show n + m ≤ 4294967296 by omega) hb
      omega
    obtain ⟨v', w', e1, e2, e3, _, e5⟩ := run_append_own_at (P := P) w base t ty e i z size bytes ht hi hz hsize hby hzs hsz v n xs hown ad m c news
      (by rw [hrw.len, hml]) (hsome ad rfl) hrw.one (by simp only [maxLen]; omega) hbytes hbase
    have hform' : v'.ownBlock = blkOf v' := by
      rcases e2.2 with ⟨rfl, _⟩ | ⟨g, cap, cur, rfl, _⟩ <;> rfl
    refine ⟨v', w', news, e1, by rw [hml]; exact e2, hrw, ⟨e3.os, e3.tape, e3.output, e3.size, fun k hk hne => e3.block k hk (fun e => hne (by rw [← hblk, ← e]))⟩, ?_⟩
    rw [← hform', ← hblk]
    exact e5
theorem append_str_run {P : Program} (w : World) (base : Nat) (t u ty e : TypeId) (i : TypeInfo) (ht : P.underlying t = some (.slice e)) (hu : P.underlying u = some .string) (hi : P.info? e = some i) (hz : i.zero = some (.int .u8 0))
    (hsize : i.size = 1) (hby : i.bytes = 1) (v : Value) (n : Nat) (xs : List Value) (hown : w.ownsRow base e 1 v n xs) (hbase : base ≤ w.heap.size) (hn : n ≤ room) {l : List UInt8} (hl : l.length ≤ room) :
    ∃ v' w', (Builtin.append_ #[t, u] ty #[v, .string ⟨l.toArray⟩]).run P w = .ok v' w' ∧ w'.ownsRow base e 1 v' (n + l.length) (xs ++ l.map fun c => .int .u8 c.toNat) ∧ Fr (fun x => blkOf v = some x) w w' ∧ (blkOf v' = blkOf v ∨ blkOf v' = some w.heap.size) := by
  unfold room at hn hl
  have hss : (⟨l.toArray⟩ : ByteArray).size = l.length := by simp [ByteArray.size]
  have hcells : strCells ⟨l.toArray⟩ = l.map fun c => .int .u8 c.toNat := by simp [strCells]
  have hform : ∃ A n c, v = .slice A n c := by rcases hown.2 with ⟨rfl, _⟩ | ⟨g, cap, cur, rfl, _⟩ <;> exact ⟨_, _, _, rfl⟩
  obtain ⟨A0, n0, c0, hv0⟩ := hform
  have hblk : v.ownBlock = blkOf v := blk_own hv0
  rcases hown.2 with ⟨hv, hn0⟩ | ⟨g, cap, cur, hv, hbg, hg, hnc, hcm, hcs, htake⟩
  · -- a nil slice
    have hown' : w.ownsRow w.heap.size e 1 v n xs := ⟨hown.1, .inl ⟨hv, hn0⟩⟩
    obtain ⟨v', w', e1, e2, e3, _⟩ := run_append_own_string (P := P) w w.heap.size t u ty e i ht hu hi hz hsize hby v n xs hown' ⟨l.toArray⟩ (by simp only [maxLen, hss]; omega) (by rw [hss]; omega) (Nat.le_refl _)
    obtain ⟨v2, w2, f1, f2, f3, _⟩ := run_append_own_string (P := P) w base t u ty e i ht hu hi hz hsize hby v n xs hown ⟨l.toArray⟩ (by simp only [maxLen, hss]; omega) (by rw [hss]; omega) hbase
    rw [e1] at f1
    cases f1
    rw [hss, hcells] at f2
    refine ⟨v', w', e1, f2, ⟨e3.os, e3.tape, e3.output, e3.size, fun k hk hne => e3.block k hk (fun e => hne (by rw [← hblk, ← e]))⟩, ?_⟩
    rcases e2.2 with ⟨h1, _⟩ | ⟨g, cap, cur, h1, hg, hh, _⟩
    · exact .inl (by rw [h1, hv])
    · -- the block is new, and it is the only new one
      have hrun : (blkOf v' = some g) := by rw [h1]; rfl
      by_cases hl0 : l.length = 0
      · rw [hss] at e2
        have hr := e1
        have hl1 : l = [] := List.eq_nil_of_length_eq_zero hl0
        subst hl1
        have hf := run_firstCells_string (P := P) w 1 (⟨([] : List UInt8).toArray⟩ : ByteArray)
        subst hv
        have hrun0 : (Builtin.append_ #[t, u] ty #[.slice none 0 0, .string ⟨([] : List UInt8).toArray⟩]).run P w = .ok (.slice none 0 0) w := by
          have hz0 : (⟨([] : List UInt8).toArray⟩ : ByteArray).size = 0 := rfl
          rw [hz0] at hf
          simp [Builtin.append_, run_underlying ht, run_underlying hu, sizeOf, typeInfo, hi, hsize, Builtin.lenOf, hz0, hf]
        rw [hrun0] at hr
        cases hr
        cases h1
      · subst hv
        have hr := run_append_nil_string (P := P) w t u ty e i (.int .u8 0) ht hu hi hz ⟨l.toArray⟩ (by rw [hss]; omega) (by rw [hss]; omega) (by rw [hby, hss]; omega)
        rw [hr] at e1
        cases e1
        exact .inr rfl
  · obtain ⟨v2, w2, f1, f2, f3, _⟩ := run_append_own_string (P := P) w base t u ty e i ht hu hi hz hsize hby v n xs hown ⟨l.toArray⟩ (by simp only [maxLen, hss]; omega) (by rw [hss]; omega) hbase
    have f1' := f1
    rw [hss, hcells] at f2
    refine ⟨v2, w2, f1, f2, ⟨f3.os, f3.tape, f3.output, f3.size, fun k hk hne => f3.block k hk (fun e => hne (by rw [← hblk, ← e]))⟩, ?_⟩
    have hxl : xs.length = n := by simpa using hown.1
    subst hv
    by_cases hroom : n + l.length ≤ cap
    · have hr := run_append_room_string (P := P) w t u ty e i ht hu hi hsize g n cap cur hg ⟨l.toArray⟩ (by rw [hss]; exact hroom) (by rw [hss]; omega)
      rw [hr] at f1'
      cases f1'
      exact .inl rfl
    · have holds : ∀ j u, xs[j]? = some u → w.cell? ((⟨g, 0, none⟩ : Addr).add j) = some u := hown.cells (g := g) rfl
      have hr := run_append_grow_string (P := P) w t u ty e i (.int .u8 0) ht hu hi hz ⟨g, 0, none⟩ n cap xs (by rw [hsize]; simpa using hxl) holds ⟨l.toArray⟩ (by rw [hss]; omega) (by rw [hss]; omega) (by rw [hby]; exact growslice_fits (by rw [hss]; omega) (by rw [hss]; omega))
      rw [hr] at f1'
      cases f1'
      exact .inr rfl

/-- a name goes on under a new one -/
theorem R.swap (h : R E cx tm S a w ρ) (hn : ρ nx = none) {m : Nat} {b b' : Blk} (hl : lk S m = some b) (hb : live b = true) {v : Value} {w' : World}
    (hf : Fr (fun x => (ρ m).bind blkOf = some x) w w') (hv : ∀ x, blkOf v = some x → (ρ m).bind blkOf = some x ∨ w.heap.size ≤ x)
    (hs : (∀ d u, VI w (AvS cx.G S ρ) d u → VI w' (AvS cx.G (ap [(nx, some b'), (m, none)] S) (withName ρ nx v)) d u) → SR E.P w' (AvS cx.G (ap [(nx, some b'), (m, none)] S) (withName ρ nx v)) (withName ρ nx v) nx b') :
    R E cx tm (ap [(nx, some b'), (m, none)] S) a w' (withName ρ nx v) := by
  obtain ⟨um, hum⟩ := h.named hl
  have hne : m ≠ nx := by rintro rfl; rw [hn] at hum; cases hum
  have ext : ∀ t u, ρ t = some u → withName ρ nx v t = some u := by
    intro t u ht
    have : t ≠ nx := by rintro rfl; rw [hn] at ht; cases ht
    rw [withName_other v this]; exact ht
  have lo : ∀ t c, lk [(nx, some b'), (m, none)] t = some (some c) → t = nx ∧ c = b' := by
    intro t c ht
    rw [lk_cons] at ht
    by_cases e : nx = t
    · rw [if_pos e] at ht; cases ht; exact ⟨e.symm, rfl⟩
    · rw [if_neg e, lk_cons] at ht
      by_cases e2 : m = t
      · rw [if_pos e2] at ht; cases ht
      · rw [if_neg e2] at ht; simp [lk] at ht
  have here : lk [(nx, some b'), (m, none)] m ≠ none := by rw [lk_cons, if_neg (Ne.symm hne), lk_cons, if_pos rfl]; simp
  refine h.turn ⟨hf.weaken ?_, ext, fun t c ht hv' x hx => ?_, fun t t' c c' x h1 h2 _ _ _ _ => ?_, fun hi t c ht => ?_⟩
  · intro x hx
    exact ⟨m, b, here, hl, hb, hx⟩
  · obtain ⟨rfl, rfl⟩ := lo t c ht
    rw [withName_same] at hx
    rcases hv x hx with h1 | h1
    · exact .inr ⟨m, b, here, hl, hb, h1⟩
    · exact .inl h1
  · rw [(lo t c h1).1, (lo t' c' h2).1]
  · obtain ⟨rfl, rfl⟩ := lo t c ht
    exact hs hi

theorem call_append {x y : Operand} {ts : Array TypeId} (ho : o.op = .call { callee := .builtin .append, args := #[x, y], argTypes := ts }) {v : Value} {w' : World}
    (hrun : (Builtin.append_ ts o.type #[a.eval x, a.eval y]).run E.P w = .ok v w') : (execOp a.eval o).run E.P w = .ok (.value v) w' := by
  simp only [execOp, ho, resolve, invoke, builtin, Sem.run_bind, Sem.run_pure, Result.andThen_ok, List.map_toArray, List.map_cons, List.map_nil, hrun]

theorem VI.of_own {w : World} {Av : Nat → Prop} : ∀ (l : List UInt8), Rows (VI w Av) 1 (bytesOf l) (l.map fun c => .int .u8 c.toNat) := by
  intro l
  refine ⟨by simp [bytesOf], fun cs hcs => ?_, fun u hu => ?_, fun i j cs d hc hd => ?_⟩
  · simp only [bytesOf, List.mem_map] at hcs
    obtain ⟨c, _, rfl⟩ := hcs
    rfl
  · simp only [List.mem_map] at hu
    obtain ⟨c, _, rfl⟩ := hu
    rfl
  · simp only [bytesOf, List.getElem?_map, Option.map_eq_some_iff] at hc
    obtain ⟨c, h1, rfl⟩ := hc
    cases j with
    | zero =>
      simp at hd
      subst hd
      exact ⟨.int .u8 c.toNat, by simp [h1], .k _ _⟩
    | succ j => simp at hd

theorem ok_append (hty : TyOk E) {t t' : TypeId} {x y : Operand} (ho : o.op = .call { callee := .builtin .append, args := #[x, y], argTypes := #[t, t'] })
    {dx dy dy' : D} (hx : ev E.gl tm x = some dx) (hy : ev E.gl tm y = some dy') (hyy : (t' = t ∧ dy = dy') ∨ (∃ l td', dy' = .s l ∧ dy = .sl (bytesOf l) ∧ E.ty t' = some td' ∧ td'.kind = .str))
    (hk : appendK E t S nx dx dy fun d fp S' nx' => K fp (put o.dst d tm) S' nx')
    (hbyte : t' ≠ t → ∀ td e te, E.ty t = some td → td.kind = .slice e → E.ty e = some te → isByte te = true) : Ok1 E o tm S nx K := by
  unfold appendK at hk
  obtain ⟨td, htd, hk⟩ := tyK_inv hk
  split at hk
  · rename_i e hkind
    obtain ⟨te, hte, hk⟩ := tyK_inv hk
    have hu : E.P.underlying t = some (.slice e) := by
      have := hty.kind htd
      rw [hkind] at this
      exact kind_slice this
    obtain ⟨i, z, hi, hs, hby, hz, hpos, hzl, hzc, _⟩ := hty.info hte
    have hzs : z.cells.size = te.size := by have := (zeroChk_cells (w := default) (Av := fun _ => False) (ρ := fun _ => none) hzc).1.len; rw [hzl] at this; simpa using this.symm
    have hce : E.P.cellsOf e = te.size := hty.cells hte
    unfold srcK at hk
    split at hk
    · rename_i ys hys
      obtain ⟨hyl, hwide, hcs, hk⟩ := hk
      -- the run, over a row of the call's own
      have run : ∀ {cx : Cx} {tm' : Tm} {S1 : Store} {a : Act} {w : World} {ρ : Nat → Option Value} (base : Nat) (v : Value) (n : Nat) (us : List Value), R E cx tm' S1 a w ρ → (∀ x ∈ o.op.operands, ev E.gl tm' x = ev E.gl tm x) → (∀ t ∈ nmD dy, ∀ xs, ((∃ e, lk S t = some (.own e xs)) ∨ lk S t = some (.fr xs)) → lk S1 t = some (.fr xs)) →
          a.eval x = v → w.ownsRow base e te.size v n us → base ≤ w.heap.size → n ≤ room →
          ∃ v' w' news, (execOp a.eval o).run E.P w = .ok (.value v') w' ∧ w'.ownsRow base e te.size v' (n + ys.length) (us ++ news) ∧ Rows (VI w (AvS cx.G S1 ρ)) te.size ys news ∧ Fr (fun x => blkOf v = some x) w w' ∧ (blkOf v' = blkOf v ∨ blkOf v' = some w.heap.size) := by
        intro cx tm' S1 a w ρ base v n us h he hfr hax hown hbase hn
        have hey := h.eval ((he y (by simp [ho, Op.operands, Call.operands])).trans hy)
        rcases hyy with ⟨htt, hdd⟩ | ⟨l, td', hdl, hdd, htd', hk'⟩
        · subst hdd
          subst htt
          have hvi := immD_VI (S0 := S) h hfr hey hys
          obtain ⟨v', w', news, e1, e2, e3, e4, e5⟩ := append_run (P := E.P) w base t' o.type e i z te.size te.bytes hu hi hz hs hby hzs hpos v n us hown hbase hn hwide hvi hcs hyl
          rw [← hax] at e1
          exact ⟨v', w', news, call_append ho e1, e2, e3, e4, e5⟩
        · subst hdd
          subst hdl
          have hys' : ys = bytesOf l := by simp [immD, immA] at hys; exact hys.symm
          subst hys'
          have hu' : E.P.underlying t' = some .string := by
            have := hty.kind htd'
            rw [hk'] at this
            exact kind_str this
          have htt : t' ≠ t := by rintro rfl; rw [hu] at hu'; cases hu'
          obtain ⟨b2, b3⟩ : te.bytes = 1 ∧ te.zero = .k .u8 0 := by
            have := hbyte htt td e te htd hkind hte
            unfold isByte at this
            split at this
            · rename_i h2
              exact ⟨Nat.eq_of_beq_eq_true this, h2⟩
            · cases this
          have hz' : i.zero = some (.int .u8 0) := by
            rw [hz]
            rw [b3] at hzc
            cases z <;> simp [zeroChk, zeroEq] at hzc
            rw [← hzc.1, ← hzc.2]
          have hsz1 : te.size = 1 := by rw [← hzl, b3]; rfl
          have hll : l.length ≤ room := by simpa [bytesOf] using hyl
          rw [hsz1] at hown hs
          obtain ⟨v', w', e1, e2, e4, e5⟩ := append_str_run (P := E.P) w base t t' o.type e i hu hu' hi hz' hs (by rw [hby, b2]) v n us hown hbase hn hll
          rw [← hax] at e1
          have hyv : a.eval y = .string ⟨l.toArray⟩ := hey.s_inv
          rw [hsz1]
          refine ⟨v', w', _, call_append ho (by rw [hyv]; exact e1), ?_, VI.of_own l, e4, e5⟩
          have hbl : (bytesOf l).length = l.length := by simp [bytesOf]
          rw [hbl]
          exact e2
      cases dx with
      | nil =>
        refine Ok1.frzNew (ns := nmD dy) (fun _ h => h) hk fun cx tm' S' a w ρ he hag h h' hfresh => ?_
        have hvx : a.eval x = .slice none 0 0 := (h.eval ((he x (by simp [ho, Op.operands, Call.operands])).trans hx)).nil_inv
        obtain ⟨v', w', news, e1, e2, e3, e4, e5⟩ := run w.heap.size (.slice none 0 0) 0 [] h' he (frz_fits hag) hvx (World.ownsRow_nil _ _ _ _) (Nat.le_refl _) (Nat.zero_le _)
        rw [← hce] at e3 e2
        obtain ⟨h2, hv⟩ := h'.own hfresh e3 (e4.weaken fun x hx => by simp [blkOf] at hx) (by simpa using e2)
        exact ⟨v', w', v', e1, h2, hv⟩
      | own m0 =>
        simp only at hk
        split at hk
        · rename_i e' xs hl
          split at hk
          · rename_i hbb
            simp only [Bool.and_eq_true] at hbb
            obtain ⟨hb1, hb2⟩ := hbb
            obtain ⟨hxl, hk⟩ := hk
            have hee : e = e' := Nat.eq_of_beq_eq_true hb1
            subst hee
            have hnin : m0 ∉ nmD dy := fun hin => by rw [memB_iff.2 hin] at hb2; cases hb2
            refine Ok1.val (fp := ⟨nx :: m0 :: nmD dy, nx :: m0 :: nmD dy⟩) (out := [(nx, some (.own e (xs ++ ys))), (m0, none)] ++ frzOut S (nmD dy)) (nx' := nx + 1) (d := .own nx) (fun n h => ?_) (fun n h => h) (Nat.le_succ _) (fun n h1 h2 => by simp; omega) (fun n => ?_) hk ?_
            · simp only [List.cons_append, List.nil_append, lk_cons] at h
              by_cases e1 : nx = n
              · simp [e1]
              · by_cases e2 : m0 = n
                · simp [e2]
                · rw [if_neg e1, if_neg e2, lk_frzOut] at h
                  by_cases hin : n ∈ nmD dy
                  · simp [hin]
                  · rw [if_neg hin] at h; exact absurd rfl h
            · have key : ∀ n, lk (del m0 (frz (nmD dy) S)) n = lk (ap ([(m0, none)] ++ frzOut S (nmD dy)) S) n := by
                intro n
                have := lk_ap2 [(m0, none)] (frzOut S (nmD dy)) S (frz_ap (nmD dy) S) n
                rw [← this]
                rfl
              exact lk_cons_ap key n
            · intro cx tm' S' a w ρ he hf h hfr
              have hag : ∀ m ∈ nmD dy, lk S' m = lk S m := fun m hm => hf m (by simp [hm])
              have h' := h.frzs (S0 := S) (nmD dy) hag
              have hl' : lk (ap (frzOut S (nmD dy)) S') m0 = some (.own e xs) := by
                rw [lk_ap, lk_frzOut, if_neg hnin]
                simp only
                rw [hf m0 (by simp)]
                exact hl
              obtain ⟨v, us, hr, hown, hc⟩ := h'.st _ _ hl'
              have hvx : a.eval x = v := by
                have := (h'.eval ((he x (by simp [ho, Op.operands, Call.operands])).trans hx)).own_inv
                rw [hr] at this
                exact (Option.some.inj this).symm
              rw [hce] at hown hc
              obtain ⟨v', w', news, e1, e2, e3, e4, e5⟩ := run 0 v xs.length us h' he (frz_fits hag) hvx hown (Nat.zero_le _) hxl
              have hbind : (ρ m0).bind blkOf = blkOf v := by rw [hr]; rfl
              have hfresh := hfr nx (Nat.le_refl _) (Nat.lt_succ_self _)
              have h2 := h'.swap hfresh (b' := .own e (xs ++ ys)) (v := v') hl' rfl (w' := w') (by rw [hbind]; exact e4) (fun x hx => by
                rw [hbind]
                rcases e5 with e5 | e5
                · exact .inl (by rw [← e5]; exact hx)
                · rw [e5] at hx
                  simp at hx
                  omega) (fun hi' => ⟨v', us ++ news, withName_same _ _, by rw [hce, List.length_append]; exact e2, by rw [hce]; exact (hc.append e3).mono hi'⟩)
              have h1' : v'.oneCell' = true := by rcases e2.2 with ⟨rfl, _⟩ | ⟨g, cap, cur, rfl, _⟩ <;> rfl
              refine ⟨v', w', _, e1, by rw [ap_append]; exact h2, .gr (.atom (.own (withName_same _ _) h1')), fun n hne => withName_other v' (by rintro rfl; exact hne ⟨Nat.le_refl _, Nat.lt_succ_self _⟩)⟩
          · exact hk.elim
        · exact hk.elim
      | _ => exact hk.elim
    · exact hk.elim
  · exact hk.elim
end
end Go.Ab
