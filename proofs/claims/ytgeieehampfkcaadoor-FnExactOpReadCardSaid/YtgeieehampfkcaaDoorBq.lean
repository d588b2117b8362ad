/- An abstract reading of the elaborated code. Part 17: a region that draws its order. -/
import Derived.Test.YtgeieehampfkcaaDoorBp
namespace Go.Ab
open Go Go.RowKit

section
variable {E : Env} {cx : Cx} {ops : Array Oper}

theorem run_get : ∀ (l : List Oper) (tm : Tm) (S : Store) (nx : Nat) (ms : List Mk) (tmf : Tm) (Sf : Store) (nxf : Nat), Run E ops l tm S nx ms tmf Sf nxf →
    ms.length = l.length ∧ nx ≤ nxf ∧ (∀ m, ms[0]? = some m → m.tm = tm ∧ m.S = S ∧ m.nx = nx) ∧ (l = [] → tmf = tm ∧ Sf = S ∧ nxf = nx) ∧
    ∀ (i : Nat) (o : Oper), l[i]? = some o → ∃ m tm1 S1, ms[i]? = some m ∧ Stp E ops o m tm1 S1 ∧ nx ≤ m.nx ∧ m.nx' ≤ nxf ∧
      (∀ m2, ms[i + 1]? = some m2 → m2.tm = tm1 ∧ m2.S = S1 ∧ m2.nx = m.nx') ∧ (i + 1 = l.length → tmf = tm1 ∧ Sf = S1 ∧ nxf = m.nx')
  | [], tm, S, nx, ms, tmf, Sf, nxf, ⟨h0, h1, h2, h3⟩ => by subst h0 h1 h2 h3; simp
  | o :: r, tm, S, nx, ms, tmf, Sf, nxf, ⟨m, q, tm1, S1, e0, e1, e2, e3, hs, hr⟩ => by
    subst e0
    obtain ⟨g1, g2, g3, g4, g5⟩ := run_get r tm1 S1 m.nx' q tmf Sf nxf hr
    have hle := hs.le
    refine ⟨by simp [g1], by omega, fun m' hm => by simp at hm; subst hm; exact ⟨e1, e2, e3⟩, by simp, fun i o' ho => ?_⟩
    cases i with
    | zero =>
      simp at ho
      subst ho
      refine ⟨m, tm1, S1, rfl, hs, by omega, g2, fun m2 h2 => g3 m2 (by simpa using h2), fun hl => ?_⟩
      have : r = [] := List.eq_nil_of_length_eq_zero (by simp only [List.length_cons] at hl; omega)
      exact g4 this
    | succ i =>
      obtain ⟨m', tm2, S2, q1, q2, q3, q4, q5, q6⟩ := g5 i o' (by simpa using ho)
      exact ⟨m', tm2, S2, by simpa using q1, q2, by omega, q4, fun m2 h2 => q5 m2 (by simpa using h2), fun hl => q6 (by simp only [List.length_cons] at hl; omega)⟩

def Wt (l : List Oper) (ms : List Mk) (i : Nat) (t : Nat) : Option (Option D) :=
  match l[i]?, ms[i]? with
  | some o, some m => if o.dst = some t then some (some m.d) else none
  | _, _ => none
def Ws (ms : List Mk) (i : Nat) (n : Nat) : Option (Option Blk) :=
  match ms[i]? with
  | some m => lk m.out n
  | none => none

theorem lk_put (dst : Option Nat) (d : D) (tm : Tm) (t : Nat) : lk (put dst d tm) t = if dst = some t then some d else lk tm t := by
  cases dst with
  | none => simp [put]
  | some t0 =>
    simp only [put, lk_cons]
    by_cases e : t0 = t
    · simp [e]
    · simp [e]

section
variable {l : List Oper} {tm : Tm} {S : Store} {nx : Nat} {ms : List Mk} {tmf : Tm} {Sf : Store} {nxf : Nat} (hr : Run E ops l tm S nx ms tmf Sf nxf)
include hr
omit hr in
theorem run_step {i : Nat} {o : Oper} {m : Mk} (ho : l[i]? = some o) (hm : ms[i]? = some m) (t : Nat) : lk (put o.dst m.d m.tm) t = (Wt l ms i t).getD (lk m.tm t) := by
  rw [lk_put]
  simp only [Wt, ho, hm]
  by_cases e : o.dst = some t <;> simp [e]
theorem run_at : ∀ (i : Nat) (m : Mk), ms[i]? = some m → (∀ t, lk m.tm t = atL (Wt l ms) (lk tm) all_ i t) ∧ (∀ n, lk m.S n = atL (Ws ms) (lk S) all_ i n) ∧ ∀ (j : Nat) (m' : Mk), j < i → ms[j]? = some m' → m'.nx' ≤ m.nx := by
  obtain ⟨g1, g2, g3, g4, g5⟩ := run_get l tm S nx ms tmf Sf nxf hr
  intro i
  induction i with
  | zero =>
    intro m hm
    obtain ⟨e1, e2, e3⟩ := g3 m hm
    exact ⟨fun t => by rw [e1]; rfl, fun n => by rw [e2]; rfl, fun j _ hj => by omega⟩
  | succ i ih =>
    intro m hm
    have hi : i < l.length := by rw [← g1]; have := (List.getElem?_eq_some_iff.1 hm).1; omega
    obtain ⟨m0, tm1, S1, q1, q2, q3, q4, q5, q6⟩ := g5 i l[i] (List.getElem?_eq_getElem hi)
    obtain ⟨e1, e2, e3⟩ := q5 m hm
    obtain ⟨f1, f2, f3⟩ := ih m0 q1
    refine ⟨fun t => ?_, fun n => ?_, fun j m' hj hm' => ?_⟩
    · rw [e1, q2.tm', run_step (List.getElem?_eq_getElem hi) q1, f1]
      simp [atL, all_]
    · rw [e2, q2.S', lk_ap, f2]
      have hws : Ws ms i n = lk m0.out n := by simp only [Ws, q1]
      simp only [atL, all_, if_true, hws]
      cases lk m0.out n <;> rfl
    · rw [e3]
      by_cases e : j = i
      · subst e
        rw [q1] at hm'
        cases hm'
        exact Nat.le_refl _
      · have := f3 j m' (by omega) hm'
        have := q2.le
        omega
theorem run_end : (∀ t, lk tmf t = atL (Wt l ms) (lk tm) all_ l.length t) ∧ (∀ n, lk Sf n = atL (Ws ms) (lk S) all_ l.length n) := by
  obtain ⟨g1, g2, g3, g4, g5⟩ := run_get l tm S nx ms tmf Sf nxf hr
  cases hl : l.length with
  | zero =>
    have := List.eq_nil_of_length_eq_zero hl
    obtain ⟨e1, e2, _⟩ := g4 this
    exact ⟨fun t => by rw [e1]; rfl, fun n => by rw [e2]; rfl⟩
  | succ k =>
    have hk : k < l.length := by omega
    obtain ⟨m0, tm1, S1, q1, q2, q3, q4, q5, q6⟩ := g5 k l[k] (List.getElem?_eq_getElem hk)
    obtain ⟨e1, e2, e3⟩ := q6 (by omega)
    obtain ⟨f1, f2, f3⟩ := run_at hr k m0 q1
    refine ⟨fun t => ?_, fun n => ?_⟩
    · rw [e1, q2.tm', run_step (List.getElem?_eq_getElem hk) q1, f1]
      simp [atL, all_]
    · rw [e2, q2.S', lk_ap, f2]
      have hws : Ws ms k n = lk m0.out n := by simp only [Ws, q1]
      simp only [atL, all_, if_true, hws]
      cases lk m0.out n <;> rfl
end

theorem edgesB_get : ∀ {l : List Oper} {k : Nat}, edgesB l k = true → ∀ (j : Nat) (o : Oper), l[j]? = some o → ∀ e ∈ o.after.toList, Region.binds .any e = true → e.on < k + j
  | [], k, h, j, o, hj => by simp at hj
  | o0 :: r, k, h, j, o, hj => by
    simp only [edgesB, Bool.and_eq_true] at h
    obtain ⟨h1, h2⟩ := h
    cases j with
    | zero =>
      simp at hj
      subst hj
      intro e he hb
      have := List.all_eq_true.1 h1 e he
      simp only [Bool.or_eq_true, Bool.not_eq_true'] at this
      rcases this with h | h
      · rw [hb] at h; cases h
      · exact Nat.le_of_ble_eq_true h
    | succ j =>
      intro e he hb
      have := edgesB_get h2 j o (by simpa using hj) e he hb
      omega

theorem draw_sound {Q : Exit → Act → World → Prop} {tm : Tm} {S : Store} {nx : Nat} {ms : List Mk} {tmf : Tm} {Sf : Store} {nxf : Nat} (hQ : ∀ a w ρ, R E cx tmf Sf a w ρ → Fresh nxf ρ → Q .normal a w)
    (hr : Run E ops ops.toList tm S nx ms tmf Sf nxf) (hd : drawB ops (ms.map (·.fp)) = true) (hok : opersOk cx.N ops.toList = true) {a : Act} {w : World} {ρ : Nat → Option Value} (h : R E cx tm S a w ρ) (hf : Fresh nx ρ) :
    wpAny E.P .any ops Q ops.size (Array.replicate ops.size false) a w := by
  obtain ⟨g1, g2, g3, g4, g5⟩ := run_get ops.toList tm S nx ms tmf Sf nxf hr
  simp only [drawB, Bool.and_eq_true] at hd
  obtain ⟨⟨hed, _⟩, hcl⟩ := hd
  have hlen : ops.toList.length = ops.size := by simp
  have ho_of : ∀ (i : Nat) (o : Oper), ops[i]? = some o → ops.toList[i]? = some o := fun i o h => by simpa using h
  -- the bits
  have hbits := aheads_spec ops.toList []
  simp only [List.length_nil, Nat.zero_add] at hbits
  have hbit : ∀ (j : Nat) (o : Oper), ops[j]? = some o → ∀ i, bitAt ((aheads ops.toList []).getD j 0) i = true → ∃ e ∈ o.after.toList, Region.binds .any e = true ∧ (i = e.on ∨ bitAt ((aheads ops.toList []).getD e.on 0) i = true) :=
    fun j o ho => hbits.2.2 j o (ho_of j o ho) (fun e he hb => by have := edgesB_get hed j o (ho_of j o ho) e he hb; omega)
  -- what two operations do to one another
  have hclear : ∀ (i j : Nat) (oi oj : Oper) (mi mj : Mk), i < j → ops[i]? = some oi → ops[j]? = some oj → ms[i]? = some mi → ms[j]? = some mj →
      bitAt ((aheads ops.toList []).getD j 0) i = true ∨ ((∀ n, n ∈ mj.fp.wr → n ∉ mi.fp.all) ∧ (∀ n, n ∈ mi.fp.wr → n ∉ mj.fp.all) ∧ (∀ t, oj.dst = some t → t ∉ mentions ops oi) ∧ ∀ t, oi.dst = some t → t ∉ mentions ops oj) := by
    intro i j oi oj mi mj hij hoi hoj hmi hmj
    have h1 := clearAll_get hcl rfl j oj mj.fp (ho_of j oj hoj) (by simp [hmj])
    have h2 := clearOf_get h1 i mi.fp (mentions ops oi) oi.dst (by
      have hz : (ops.toList.zip (ms.map (·.fp)))[i]? = some (oi, mi.fp) := by
        rw [List.getElem?_zip_eq_some]
        exact ⟨ho_of i oi hoi, by simp [hmi]⟩
      simp only [List.nil_append, List.getElem?_map]
      rw [List.getElem?_take, if_pos hij, hz]
      rfl)
    simpa using h2
  have key : ∀ (fuel : Nat) (listed : Array Bool) (a : Act) (w : World), listed.size = ops.size → (∀ j, listed.getD j false = true → ∀ i, bitAt ((aheads ops.toList []).getD j 0) i = true → listed.getD i false = true) →
      cntL (fun i => listed.getD i false) ops.size ≤ fuel →
      (∃ TM ST ρ, R E cx TM ST a w ρ ∧ (∀ t, lk TM t = atL (Wt ops.toList ms) (lk tm) (fun i => listed.getD i false) ops.size t) ∧ (∀ n, lk ST n = atL (Ws ms) (lk S) (fun i => listed.getD i false) ops.size n) ∧
        (∀ i m, ms[i]? = some m → listed.getD i false = false → ∀ k, m.nx ≤ k → k < m.nx' → ρ k = none) ∧ ∀ k, nxf ≤ k → ρ k = none) → wpAny E.P .any ops Q fuel listed a w := by
    intro fuel
    induction fuel with
    | zero =>
      intro listed a w hsz hdc hcnt hst
      have hall := cntL_zero (L := fun i => listed.getD i false) ops.size (by omega)
      refine ⟨?_, ?_⟩
      · cases hrd : Region.ready .any ops listed with
        | nil => rfl
        | cons i r =>
          have hi : i ∈ Region.ready .any ops listed := by rw [hrd]; simp
          obtain ⟨h1, o, h2, _⟩ := mem_ready.1 hi
          have hlt : i < ops.size := (Array.getElem?_eq_some_iff.1 h2).1
          have := hall i hlt
          have hls : i < listed.size := by omega
          simp [Array.getD, hls] at h1 this
          rw [h1] at this
          cases this
      · obtain ⟨TM, ST, ρ, q1, q2, q3, q4, q5⟩ := hst
        have e := run_end hr
        rw [hlen] at e
        refine hQ a w ρ (q1.ext (fun t => ?_) (fun n => ?_)) q5
        · rw [e.1, q2]; exact (atL_upto (fun m hm _ => hall m hm) _ (Nat.le_refl _)).symm
        · rw [e.2, q3]; exact (atL_upto (fun m hm _ => hall m hm) _ (Nat.le_refl _)).symm
    | succ fuel ih =>
      intro listed a w hsz hdc hcnt hst
      constructor
      · intro hrd
        -- all are listed
        have hall : ∀ i, i < ops.size → listed.getD i false = true := by
          intro i
          induction i using Nat.strongRecOn with
          | _ i ihi =>
            intro hi
            cases hl : listed.getD i false with
            | true => rfl
            | false =>
              have hls : i < listed.size := by omega
              have ho : ops[i]? = some ops[i] := by simp [hi]
              have : i ∈ Region.ready .any ops listed := by
                refine mem_ready.2 ⟨?_, ops[i], ho, fun e he hb => ?_⟩
                · simp [Array.getD, hls] at hl ⊢; exact hl
                · have hlt := edgesB_get hed i ops[i] (ho_of i _ ho) e (by simpa using he) hb
                  exact ihi e.on (by omega) (by omega)
              rw [hrd] at this
              cases this
        obtain ⟨TM, ST, ρ, q1, q2, q3, q4, q5⟩ := hst
        have e := run_end hr
        rw [hlen] at e
        refine hQ a w ρ (q1.ext (fun t => ?_) (fun n => ?_)) q5
        · rw [e.1, q2]; exact (atL_upto (fun m hm _ => hall m hm) _ (Nat.le_refl _)).symm
        · rw [e.2, q3]; exact (atL_upto (fun m hm _ => hall m hm) _ (Nat.le_refl _)).symm
      · intro i hi
        obtain ⟨h1, o, ho, hedges⟩ := mem_ready.1 hi
        have hlt : i < ops.size := (Array.getElem?_eq_some_iff.1 ho).1
        have hls : i < listed.size := by omega
        have hLi : listed.getD i false = false := by simp [Array.getD, hls] at h1 ⊢; exact h1
        obtain ⟨TM, ST, ρ, q1, q2, q3, q4, q5⟩ := hst
        obtain ⟨m, tm1, S1, hm, hs, hnx, hnx', _, _⟩ := g5 i o (ho_of i o ho)
        obtain ⟨f1, f2, f3⟩ := run_at hr i m hm
        -- what is ahead is listed
        have hahead : ∀ j, bitAt ((aheads ops.toList []).getD i 0) j = true → listed.getD j false = true := by
          intro j hj
          obtain ⟨e, he, hb, hor⟩ := hbit i o ho j hj
          have hle := hedges e (by simpa using he) hb
          rcases hor with rfl | hor
          · exact hle
          · exact hdc e.on hle j hor
        have hbehind : ∀ j, bitAt ((aheads ops.toList []).getD j 0) i = true → listed.getD j false = false := by
          intro j hj
          cases hl : listed.getD j false with
          | false => rfl
          | true => rw [hdc j hl i hj] at hLi; cases hLi
        have wS : ∀ (j : Nat) (mj : Mk) (n : Nat), ms[j]? = some mj → (Ws ms j n).isSome → n ∈ mj.fp.wr := by
          intro j mj n hj hw
          simp only [Ws, hj] at hw
          have hjl : j < ops.toList.length := by rw [← g1]; exact (List.getElem?_eq_some_iff.1 hj).1
          obtain ⟨m', _, _, e1, e2, _⟩ := g5 j _ (List.getElem?_eq_getElem hjl)
          rw [hj] at e1
          cases e1
          exact e2.wr n (by intro hn; rw [hn] at hw; cases hw)
        have wT : ∀ (j : Nat) (oj : Oper) (t : Nat), ops[j]? = some oj → (Wt ops.toList ms j t).isSome → oj.dst = some t := by
          intro j oj t hj hw
          simp only [Wt, ho_of j oj hj] at hw
          cases hmj : ms[j]? with
          | none => rw [hmj] at hw; simp at hw
          | some mj =>
            rw [hmj] at hw
            simp only at hw
            by_cases e : oj.dst = some t
            · exact e
            · rw [if_neg e] at hw; cases hw
        have sub_of : ∀ (j : Nat) (mj : Mk) (n : Nat), ms[j]? = some mj → n ∈ mj.fp.wr → n ∈ mj.fp.all := by
          intro j mj n hj hn
          have hjl : j < ops.toList.length := by rw [← g1]; exact (List.getElem?_eq_some_iff.1 hj).1
          obtain ⟨m', _, _, e1, e2, _⟩ := g5 j _ (List.getElem?_eq_getElem hjl)
          rw [hj] at e1
          cases e1
          exact e2.sub n hn
        have dst_men : ∀ (oj : Oper) t, oj.dst = some t → t ∈ mentions ops oj := by
          intro oj t ht
          unfold mentions
          rw [ht]
          simp
        have noneOr : ∀ {β : Type} (x : Option β), x.isSome = true ∨ x = none := by intro β x; cases x <;> simp
        have ms_of : ∀ j, j < ops.size → ∃ mj, ms[j]? = some mj := by
          intro j hj
          exact ⟨_, List.getElem?_eq_getElem (by rw [g1, hlen]; exact hj)⟩
        have ops_of : ∀ j, j < ops.size → ∃ oj, ops[j]? = some oj := fun j hj => ⟨ops[j], by simp [hj]⟩
        -- the slots that the operation looks at
        have rdT : ∀ t, t ∈ mentions ops o → lk TM t = lk m.tm t := by
          intro t ht
          rw [q2, f1]
          refine atL_ready (Nat.le_of_lt hlt) (fun j hj hw => ?_) (fun j h1 h2 hl => ?_)
          · obtain ⟨oj, hoj⟩ := ops_of j (by omega)
            obtain ⟨mj, hmj⟩ := ms_of j (by omega)
            have hdj := wT j oj t hoj hw
            rcases hclear j i oj o mj m hj hoj ho hmj hm with hb | ⟨_, _, _, c4⟩
            · exact hahead j hb
            · exact absurd ht (c4 t hdj)
          · rcases noneOr (Wt ops.toList ms j t) with hw | hw
            · obtain ⟨oj, hoj⟩ := ops_of j h2
              obtain ⟨mj, hmj⟩ := ms_of j h2
              have hdj := wT j oj t hoj hw
              by_cases e : j = i
              · subst e; replace hl : listed.getD _ false = true := hl; rw [hLi] at hl; cases hl
              · rcases hclear i j o oj m mj (by omega) ho hoj hm hmj with hb | ⟨_, _, c3, _⟩
                · replace hl : listed.getD _ false = true := hl; rw [hbehind j hb] at hl; cases hl
                · exact absurd ht (c3 t hdj)
            · exact hw
        have rdS : ∀ n, n ∈ m.fp.all → lk ST n = lk m.S n := by
          intro n hn
          rw [q3, f2]
          refine atL_ready (Nat.le_of_lt hlt) (fun j hj hw => ?_) (fun j h1 h2 hl => ?_)
          · obtain ⟨oj, hoj⟩ := ops_of j (by omega)
            obtain ⟨mj, hmj⟩ := ms_of j (by omega)
            have hdj := wS j mj n hmj hw
            rcases hclear j i oj o mj m hj hoj ho hmj hm with hb | ⟨_, c2, _, _⟩
            · exact hahead j hb
            · exact absurd hn (c2 n hdj)
          · rcases noneOr (Ws ms j n) with hw | hw
            · obtain ⟨oj, hoj⟩ := ops_of j h2
              obtain ⟨mj, hmj⟩ := ms_of j h2
              have hdj := wS j mj n hmj hw
              by_cases e : j = i
              · subst e; replace hl : listed.getD _ false = true := hl; rw [hLi] at hl; cases hl
              · rcases hclear i j o oj m mj (by omega) ho hoj hm hmj with hb | ⟨c1, _, _, _⟩
                · replace hl : listed.getD _ false = true := hl; rw [hbehind j hb] at hl; cases hl
                · exact absurd hn (c1 n hdj)
            · exact hw
        have hL' : (fun j => (listed.setIfInBounds i true).getD j false) = setL (fun j => listed.getD j false) i := by
          funext j
          by_cases e : j = i
          · subst e
            simp [setL, Array.getD, hls]
          · rw [getD_set_ne false (Ne.symm e)]
            simp [setL, e]
        -- behind it
        have next : ∀ (a' : Act) (w' : World) (ρ' : Nat → Option Value), R E cx (put o.dst m.d TM) (ap m.out ST) a' w' ρ' → (∀ n, ¬ (m.nx ≤ n ∧ n < m.nx') → ρ' n = ρ n) → wpAny E.P .any ops Q fuel (listed.setIfInBounds i true) a' w' := by
          intro a' w' ρ' hR hρ
          refine ih _ a' w' (by simp [hsz]) (fun j hj k hk => ?_) ?_ ⟨_, _, ρ', hR, fun t => ?_, fun n => ?_, fun j mj hmj hlj k k1 k2 => ?_, fun k hk => ?_⟩
          · have e1 := congrFun hL' j
            have e2 := congrFun hL' k
            rw [e1] at hj
            rw [e2]
            simp only [setL] at hj ⊢
            by_cases ek : k = i
            · simp [ek]
            · rw [if_neg ek]
              by_cases ej : j = i
              · subst ej; exact hahead k hk
              · rw [if_neg ej] at hj; exact hdc j hj k hk
          · rw [hL']
            have := cntL_set (L := fun j => listed.getD j false) hLi ops.size hlt
            omega
          · rw [hL', lk_put]
            have hset := atL_set (W := Wt ops.toList ms) (base := lk tm) (L := fun j => listed.getD j false) (c := t) hlt hLi (fun hw j h1 h2 hl => by
              rcases noneOr (Wt ops.toList ms j t) with hwj | hwj
              · obtain ⟨oj, hoj⟩ := ops_of j h2
                obtain ⟨mj, hmj⟩ := ms_of j h2
                have d1 := wT i o t ho hw
                have d2 := wT j oj t hoj hwj
                rcases hclear i j o oj m mj h1 ho hoj hm hmj with hb | ⟨_, _, c3, _⟩
                · replace hl : listed.getD _ false = true := hl; rw [hbehind j hb] at hl; cases hl
                · exact absurd (dst_men o t d1) (c3 t d2)
              · exact hwj)
            rw [hset, ← q2]
            simp only [Wt, ho_of i o ho, hm]
            by_cases e : o.dst = some t <;> simp [e]
          · rw [hL', lk_ap]
            have hset := atL_set (W := Ws ms) (base := lk S) (L := fun j => listed.getD j false) (c := n) hlt hLi (fun hw j h1 h2 hl => by
              rcases noneOr (Ws ms j n) with hwj | hwj
              · obtain ⟨oj, hoj⟩ := ops_of j h2
                obtain ⟨mj, hmj⟩ := ms_of j h2
                have d1 := wS i m n hm hw
                have d2 := wS j mj n hmj hwj
                rcases hclear i j o oj m mj h1 ho hoj hm hmj with hb | ⟨c1, _, _, _⟩
                · replace hl : listed.getD _ false = true := hl; rw [hbehind j hb] at hl; cases hl
                · exact absurd (sub_of i m n hm d1) (c1 n d2)
              · exact hwj)
            rw [hset, ← q3]
            have : Ws ms i n = lk m.out n := by simp only [Ws, hm]
            rw [this]
            cases lk m.out n <;> rfl
          · have hji : j ≠ i := by
              rintro rfl
              have := congrFun hL' j
              rw [this] at hlj
              simp [setL] at hlj
            have hlj' : listed.getD j false = false := by rw [getD_set_ne false (Ne.symm hji)] at hlj; exact hlj
            have hout : ¬ (m.nx ≤ k ∧ k < m.nx') := by
              rintro ⟨p1, p2⟩
              rcases Nat.lt_or_gt_of_ne hji with hlt2 | hgt
              · have := f3 j mj hlt2 hmj
                omega
              · have := (run_at hr j mj hmj).2.2 i m hgt hm
                omega
            rw [hρ k hout]
            exact q4 j mj hmj hlj' k k1 k2
          · rw [hρ k (by omega)]
            exact q5 k hk
        have hdst := operOk_dst (N := cx.N) (o := o) (by
          have all : ∀ (l : List Oper), opersOk cx.N l = true → ∀ o ∈ l, operOk cx.N o = true := by
            intro l
            induction l with
            | nil => intro _ o h; cases h
            | cons p r ih =>
              intro h o ho
              simp only [opersOk, Bool.and_eq_true] at h
              rcases List.mem_cons.1 ho with rfl | ho
              · exact h.1
              · exact ih h.2 o ho
          exact all _ hok o (List.mem_of_getElem? (ho_of i o ho)))
        have hwant : wantedA ops o TM = some m.go := by
          rw [← hs.want]
          unfold wantedA
          cases hg : o.guard with
          | none => rfl
          | some g =>
            obtain ⟨j, want⟩ := g
            simp only
            cases hj : (ops[j]?).bind (·.dst) with
            | none => rfl
            | some t =>
              simp only
              rw [rdT t (by unfold mentions; rw [hg]; simp only [hj]; simp)]
        have hwv := wanted_of q1 hwant
        show wpOp E.P ops Q i _ a w
        unfold wpOp
        rw [ho]
        simp only [hwv]
        cases hgo : m.go with
        | true =>
          rw [if_pos rfl]
          left
          have hst := hs.run hgo cx TM ST a w ρ Q hdst (fun x hx => by
            cases x with
            | tmp t =>
              simp only [ev]
              refine rdT t ?_
              unfold mentions
              simp only [List.mem_append, List.mem_filterMap]
              exact .inr ⟨.tmp t, by simpa using hx, rfl⟩
            | _ => rfl) rdS q1 (fun n n1 n2 => q4 i m hm hLi n n1 n2)
          exact Oper.wp_mono (fun a' w' hn => let ⟨ρ', k1, k2⟩ := hn; next a' w' ρ' k1 k2) hst
        | false =>
          rw [if_neg (by simp)]
          obtain ⟨k1, k2, k3⟩ := hs.skip hgo
          refine next _ w ρ ?_ (fun _ _ => rfl)
          rw [k1, k2]
          exact q1.value hdst VR.undef
  refine key ops.size (Array.replicate ops.size false) a w (by simp) (fun j hj => ?_) ?_ ⟨tm, S, ρ, h, fun t => ?_, fun n => ?_, fun i m hm _ k k1 k2 => hf k ?_, fun k hk => hf k (by omega)⟩
  · rw [getD_replicate] at hj; cases hj
  · have : ∀ n, cntL (fun i => (Array.replicate ops.size false).getD i false) n ≤ n := by
      intro n
      induction n with
      | zero => simp [cntL]
      | succ n ih => simp only [cntL]; split <;> omega
    exact this _
  · have : ∀ n, atL (Wt ops.toList ms) (lk tm) (fun i => (Array.replicate ops.size false).getD i false) n t = lk tm t := by
      intro n
      induction n with
      | zero => rfl
      | succ n ih => simp only [atL, getD_replicate, Bool.false_eq_true, if_false] at ih ⊢; exact ih
    exact (this _).symm
  · have : ∀ k, atL (Ws ms) (lk S) (fun i => (Array.replicate ops.size false).getD i false) k n = lk S n := by
      intro k
      induction k with
      | zero => rfl
      | succ k ih => simp only [atL, getD_replicate, Bool.false_eq_true, if_false] at ih ⊢; exact ih
    exact (this _).symm
  · have hi : i < ops.toList.length := by rw [← g1]; exact (List.getElem?_eq_some_iff.1 hm).1
    obtain ⟨m', _, _, e1, _, e3, _⟩ := g5 i _ (List.getElem?_eq_getElem hi)
    rw [hm] at e1
    cases e1
    omega
where
  getD_replicate {n j : Nat} : (Array.replicate n false).getD j false = false := by
    simp only [Array.getD]
    split <;> simp
end
end Go.Ab
