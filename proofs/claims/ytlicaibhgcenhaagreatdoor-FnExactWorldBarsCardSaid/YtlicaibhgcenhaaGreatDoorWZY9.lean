/- Texts of this claim, set close: lemmas and contracts. -/
import Derived.Shelf.Strings.Builder1
import Derived.Shelf.Strings.Builder2
import Derived.Shelf.Strings.OnBuilder
import Derived.Shelf.Small.Bits
import Derived.Shelf.Utf8.RuneCount
import Derived.Shelf.Strconv.Itoa0
import Derived.Shelf.Strings.Search1
import Derived.Shelf.Strings.Search2
import Derived.Shelf.Strings.Search3
import Derived.Shelf.Strings.Count
import Derived.Shelf.LaysM
import Derived.Shelf.Strings.Shaped
import Derived.Shelf.Strings.Prefix
import Derived.Shelf.Strings.Split
import Derived.Shelf.Strings.SplitShaped
import Derived.Shelf.Unicode.DecodeSlow
import Derived.Test.YtlicaibhgcenhaaGreatDoorProg
import Derived.Test.YtlicaibhgcenhaaGreatDoorWZY8
set_option linter.unusedSimpArgs false
set_option linter.unusedVariables false
set_option maxHeartbeats 1000000
set_option maxRecDepth 10000
namespace Go.Proofs
open Go.Shelf
def Tryz.lays156_ren : Go.Shelf.Ren := ⟨fun | 156 => 301 | 165 => 323 | 166 => 324 | 169 => 325 | 240 => 336 | 241 => 337 | 276 => 349 | 277 => 350 | n => n, fun | 31 => 63 | 9 => 9 | 3 => 3 | 4 => 4 | 0 => 0 | 20 => 20 | 72 => 311 | 76 => 315 | 70 => 309 | 37 => 24 | 75 => 314 | 127 => 328 | 164 => 337 | 5 => 5 | 80 => 317 | n => n, fun | n => n⟩
theorem Tryz.lays156 : Go.Proofs.Lays.n156 Tryz.prog Tryz.lays156_ren := {
 mixed := by kernel_rfl
 f156 := Tryz.func301.trans (congrArg some (by kernel_rfl))
 f165 := Tryz.func323.trans (congrArg some (by kernel_rfl))
 f166 := Tryz.func324.trans (congrArg some (by kernel_rfl))
 f169 := Tryz.func325.trans (congrArg some (by kernel_rfl))
 f240 := Tryz.func336.trans (congrArg some (by kernel_rfl))
 f241 := Tryz.func337.trans (congrArg some (by kernel_rfl))
 f276 := Tryz.func349.trans (congrArg some (by kernel_rfl))
 f277 := Tryz.func350.trans (congrArg some (by kernel_rfl))
 t0 := Tryz.underlying0
 a0 := Tryz.isAgg0
 z0 := Tryz.sizeOf0
 v0 := Tryz.zeroValue0
 t3 := Tryz.underlying3
 a3 := Tryz.isAgg3
 z3 := Tryz.sizeOf3
 v3 := Tryz.zeroValue3
 t4 := Tryz.underlying4
 a4 := Tryz.isAgg4
 z4 := Tryz.sizeOf4
 v4 := Tryz.zeroValue4
 t9 := Tryz.underlying9
 a9 := Tryz.isAgg9
 z9 := Tryz.sizeOf9
 v9 := Tryz.zeroValue9
 t20 := Tryz.underlying20
 a20 := Tryz.isAgg20
 z20 := Tryz.sizeOf20
 v20 := Tryz.zeroValue20
 t31 := Tryz.underlying63
 a31 := Tryz.isAgg63
 z31 := Tryz.sizeOf63
 v31 := Tryz.zeroValue63
 t37 := Tryz.underlying24
 a37 := Tryz.isAgg24
 z37 := Tryz.sizeOf24
 v37 := Tryz.zeroValue24
 t70 := Tryz.underlying309
 a70 := Tryz.isAgg309
 z70 := Tryz.sizeOf309
 v70 := Tryz.zeroValue309
 t72 := Tryz.underlying311
 a72 := Tryz.isAgg311
 z72 := Tryz.sizeOf311
 v72 := Tryz.zeroValue311
 t75 := Tryz.underlying314
 a75 := Tryz.isAgg314
 z75 := Tryz.sizeOf314
 v75 := Tryz.zeroValue314
 t76 := Tryz.underlying315
 a76 := Tryz.isAgg315
 z76 := Tryz.sizeOf315
 v76 := Tryz.zeroValue315
 t127 := Tryz.underlying328
 a127 := Tryz.isAgg328
 z127 := Tryz.sizeOf328
 v127 := Tryz.zeroValue328
 t164 := Tryz.underlying337
 a164 := Tryz.isAgg337
 z164 := Tryz.sizeOf337
 v164 := Tryz.zeroValue337 }
theorem Tryz.Builder_Extra_156 : Builder.Extra Tryz.prog Tryz.lays156_ren := {
 sizeBuilder := by kernel_rfl
 liesBuilder := by kernel_rfl
 t5 := Tryz.underlying5
 a5 := Tryz.isAgg5
 z5 := Tryz.sizeOf5
 v5 := Tryz.zeroValue5
 infoByte := by kernel_rfl
 cellsByte := by kernel_rfl
 sizeByte := by kernel_rfl
 neB5 := by decide }
open Go.RowKit in
theorem Tryz.strings_Join_none (a : Option Addr) (c : Nat) (sep : ByteArray) (w : World) :
 Calls Tryz.prog 301 #[.slice a 0 c, .string sep] w fun e w' => e = .returned (.string ⟨#[]⟩) ∧ w' = w := Any.strings_Join_none Tryz.lays156 Tryz.Builder_Extra_156 a c sep w
open Go.RowKit in
theorem Tryz.strings_Join (bk o c : Nat) (xs : List ByteArray) (sep : ByteArray) (w : World) (hcells : ∀ (j : Nat) x, xs[j]? = some x → w.cell? ⟨bk, o + j, none⟩ = some (.string x)) (hbk : bk < w.heap.size) (hN : xs.length ≤ 140737488355328) (hcap : xs.length ≤ c) (hlen : (Lib.join (xs.map (·.data.toList)) sep.data.toList).length ≤ 140737488355328) :
 Calls Tryz.prog 301 #[.slice (some ⟨bk, o, none⟩) xs.length c, .string sep] w fun e w' => e = .returned (.string ⟨(Lib.join (xs.map (·.data.toList)) sep.data.toList).toArray⟩) ∧ Below w.heap.size w w' := Any.strings_Join Tryz.lays156 Tryz.Builder_Extra_156 bk o c xs sep w hcells hbk hN hcap hlen
def Tryz.lays221_ren : Go.Shelf.Ren := ⟨fun | 221 => 72 | 268 => 137 | 138 => 138 | 143 => 139 | 195 => 201 | 197 => 202 | 218 => 203 | 219 => 204 | 260 => 256 | 217 => 257 | 225 => 258 | 224 => 259 | 267 => 260 | 266 => 298 | 314 => 299 | n => n, fun | 9 => 9 | 3 => 3 | 31 => 63 | 4 => 4 | 0 => 0 | 105 => 232 | 21 => 21 | 5 => 5 | 46 => 263 | 119 => 284 | 139 => 287 | 138 => 286 | 146 => 289 | 51 => 288 | n => n, fun | 1 => 1 | 3 => 2 | 4 => 3 | n => n⟩
def Tryz.lays146_ren : Go.Shelf.Ren := ⟨fun | 146 => 26 | 221 => 72 | 268 => 137 | 138 => 138 | 143 => 139 | 195 => 201 | 197 => 202 | 218 => 203 | 219 => 204 | 260 => 256 | 217 => 257 | 225 => 258 | 224 => 259 | 267 => 260 | 266 => 298 | 314 => 299 | n => n, fun | 9 => 9 | 31 => 63 | 3 => 3 | 4 => 4 | 0 => 0 | 105 => 232 | 21 => 21 | 5 => 5 | 46 => 263 | 119 => 284 | 139 => 287 | 138 => 286 | 146 => 289 | 51 => 288 | n => n, fun | 1 => 1 | 3 => 2 | 4 => 3 | n => n⟩
theorem Tryz.lays146 : Go.Proofs.Lays.n146 Tryz.prog Tryz.lays146_ren := {
 mixed := by kernel_rfl
 f138 := Tryz.func138.trans (congrArg some (by kernel_rfl))
 f143 := Tryz.func139.trans (congrArg some (by kernel_rfl))
 f146 := Tryz.func26.trans (congrArg some (by kernel_rfl))
 f195 := Tryz.func201.trans (congrArg some (by kernel_rfl))
 f197 := Tryz.func202.trans (congrArg some (by kernel_rfl))
 f217 := Tryz.func257.trans (congrArg some (by kernel_rfl))
 f218 := Tryz.func203.trans (congrArg some (by kernel_rfl))
 f219 := Tryz.func204.trans (congrArg some (by kernel_rfl))
 f221 := Tryz.func72.trans (congrArg some (by kernel_rfl))
 f224 := Tryz.func259.trans (congrArg some (by kernel_rfl))
 f225 := Tryz.func258.trans (congrArg some (by kernel_rfl))
 f260 := Tryz.func256.trans (congrArg some (by kernel_rfl))
 f266 := Tryz.func298.trans (congrArg some (by kernel_rfl))
 f267 := Tryz.func260.trans (congrArg some (by kernel_rfl))
 f268 := Tryz.func137.trans (congrArg some (by kernel_rfl))
 f314 := Tryz.func299.trans (congrArg some (by kernel_rfl))
 t0 := Tryz.underlying0
 a0 := Tryz.isAgg0
 z0 := Tryz.sizeOf0
 v0 := Tryz.zeroValue0
 t3 := Tryz.underlying3
 a3 := Tryz.isAgg3
 z3 := Tryz.sizeOf3
 v3 := Tryz.zeroValue3
 t4 := Tryz.underlying4
 a4 := Tryz.isAgg4
 z4 := Tryz.sizeOf4
 v4 := Tryz.zeroValue4
 t5 := Tryz.underlying5
 a5 := Tryz.isAgg5
 z5 := Tryz.sizeOf5
 v5 := Tryz.zeroValue5
 t9 := Tryz.underlying9
 a9 := Tryz.isAgg9
 z9 := Tryz.sizeOf9
 v9 := Tryz.zeroValue9
 t21 := Tryz.underlying21
 a21 := Tryz.isAgg21
 z21 := Tryz.sizeOf21
 v21 := Tryz.zeroValue21
 t31 := Tryz.underlying63
 a31 := Tryz.isAgg63
 z31 := Tryz.sizeOf63
 v31 := Tryz.zeroValue63
 t46 := Tryz.underlying263
 a46 := Tryz.isAgg263
 z46 := Tryz.sizeOf263
 v46 := Tryz.zeroValue263
 t51 := Tryz.underlying288
 a51 := Tryz.isAgg288
 z51 := Tryz.sizeOf288
 v51 := Tryz.zeroValue288
 t105 := Tryz.underlying232
 a105 := Tryz.isAgg232
 z105 := Tryz.sizeOf232
 v105 := Tryz.zeroValue232
 t119 := Tryz.underlying284
 a119 := Tryz.isAgg284
 z119 := Tryz.sizeOf284
 t138 := Tryz.underlying286
 a138 := Tryz.isAgg286
 z138 := Tryz.sizeOf286
 v138 := Tryz.zeroValue286
 t139 := Tryz.underlying287
 a139 := Tryz.isAgg287
 z139 := Tryz.sizeOf287
 v139 := Tryz.zeroValue287
 t146 := Tryz.underlying289
 a146 := Tryz.isAgg289
 z146 := Tryz.sizeOf289
 v146 := Tryz.zeroValue289
 g1 := by kernel_rfl
 g3 := by kernel_rfl
 g4 := by kernel_rfl }
open Go.RowKit Go.Lib in
theorem Tryz.strings_Split (s sep : ByteArray) (m : Int) (w : World) (hs : s.size < 4294967281) (hm : w.cell? ⟨1, 0, none⟩ = some (.int .i64 m)) (h1 : 1 ≤ sep.size) :
 Calls Tryz.prog 26 #[.string s, .string sep] w fun e w' =>
  e = .returned (.slice (some ⟨w.heap.size, 0, none⟩) (Lib.countB s sep + 1) (Lib.countB s sep + 1)) ∧ w' = w.alloc (.cells ((Lib.splitB sep 0 (Lib.countB s sep) s).map Value.string).toArray 9) := Any.strings_Split Tryz.lays146 (by kernel_rfl) s sep m w hs hm h1
end Go.Proofs
namespace Go.Proofs.YtlicaibhgcenhaaGreatDoor
open Go Go.RowKit Go.Ab Go.Par
variable {m : Int}
theorem maxLen_cell {w : World} {Av : Nat → Prop} {cds : List D} {vs : List Value} (h : Meets (E m) w Av cds vs) : w.cell? ⟨1, 0, none⟩ = some (.int .i64 m) := by
 obtain ⟨ad, he, _, _, hc⟩ := (h.gl 1 [.k .i64 m] rfl).ep_inv
 cases he
 obtain ⟨u, hu, _, hv⟩ := hc 0 (.k .i64 m) rfl
 have : u = .int .i64 m := by
  cases hv with
  | k => rfl
 rw [this] at hu
 exact hu
theorem ba_of (b : ByteArray) : (⟨b.data.toList.toArray⟩ : ByteArray) = b := by
 cases b; simp
theorem split_list (c : UInt8) (s : Bs) : (Lib.splitB ⟨#[c]⟩ 0 (Lib.countB ⟨s.toArray⟩ ⟨#[c]⟩) ⟨s.toArray⟩).map Value.string = (cut c s).map fun l => Value.string ⟨l.toArray⟩ := by
 have h := Lib.splitB_data ⟨#[c]⟩ 0 (Lib.countB ⟨s.toArray⟩ ⟨#[c]⟩) ⟨s.toArray⟩
 have h2 : Lib.splitK [c] 0 (Lib.countB ⟨s.toArray⟩ ⟨#[c]⟩) s = cut c s := split_eq c s
 have h3 : (Lib.splitB ⟨#[c]⟩ 0 (Lib.countB ⟨s.toArray⟩ ⟨#[c]⟩) ⟨s.toArray⟩).map (·.data.toList) = cut c s := by
  rw [h]
  exact h2
 rw [← h3, List.map_map]
 refine List.map_congr_left fun b _ => ?_
 simp only [Function.comp, ba_of]
theorem split_con (s : Bs) (c : UInt8) (hs : s.length < 4294967281) : Con (E m) 26 0 [.s s, .s [c]] [] (.own 0) [(0, .own 9 ((cut c s).map fun l => [.s l]))] := by
 have hcl := cut_len c s
 refine con_strs (by kernel_rfl) ⟨_, Tryz.func26, rfl, rfl⟩ (by have : maxLen = 9223372036854775807 := rfl; omega) fun w vs Av hM => ?_
 match vs, hM.len, hM with
 | [u0, u1], _, hM =>
   obtain rfl := (hM.arg 0 _ u0 rfl rfl).s_inv
   obtain rfl := (hM.arg 1 _ u1 rfl rfl).s_inv
   have hl := Lib.splitB_all ⟨#[c]⟩ (Nat.le_refl 1) 0 _ (⟨s.toArray⟩ : ByteArray) rfl
   have hl2 := congrArg List.length (split_list c s)
   rw [List.length_map, List.length_map, hl] at hl2
   refine (Tryz.strings_Split ⟨s.toArray⟩ ⟨#[c]⟩ m w (by simpa [ByteArray.size] using hs) (maxLen_cell hM) (Nat.le_refl 1)).mono fun e w' ⟨he, hw⟩ => ?_
   rw [split_list, hl2] at *
   exact ⟨he, hw⟩
theorem join_lib (c : UInt8) : ∀ w : List Bs, Lib.join w [c] = join c w
 | [] => rfl
 | [a] => Lib.join_one a [c]
 | a :: b :: q => by
   have := join_lib c (b :: q)
   simp only [Lib.join, List.intercalate, List.intersperse] at this ⊢
   simp [join, ← this]
theorem join_con (ls : List Bs) (c : UInt8) (h1 : ls.length ≤ 1073741824) (h2 : (join c ls).length ≤ 1073741824) : Con (E m) 301 0 [.sl (ls.map fun l => [.s l]), .s [c]] [] (.s (join c ls)) [] := by
 refine con_fr ⟨_, Tryz.func301, rfl, rfl⟩ fun w vs Av hM => ?_
 match vs, hM.len, hM with
 | [u0, u1], _, hM =>
   obtain rfl := (hM.arg 1 _ u1 rfl rfl).s_inv
   rcases (hM.arg 0 _ u0 rfl rfl).strs with ⟨rfl, a, k, rfl⟩ | ⟨bk, o, k, rfl, hk, hb, hc⟩
   · refine (Tryz.strings_Join_none a k ⟨#[c]⟩ w).mono fun e w' ⟨he, hw⟩ => ?_
     rw [hw]
     exact ⟨Fr.refl _ _, _, he, .gr (.atom (.im (.s [])))⟩
   · have e1 : ((ls.map fun l => (⟨l.toArray⟩ : ByteArray)).map (·.data.toList)) = ls := by simp [Function.comp_def]
     have hJ := Tryz.strings_Join bk o k (ls.map fun l => ⟨l.toArray⟩) ⟨#[c]⟩ w (fun j x hx => by
      simp only [List.getElem?_map, Option.map_eq_some_iff] at hx
      obtain ⟨l, hl, rfl⟩ := hx
      exact hc j l hl) hb (by simp; omega) (by simpa using hk) (by rw [e1]; rw [show (⟨#[c]⟩ : ByteArray).data.toList = [c] from rfl, join_lib]; omega)
     rw [e1, show (⟨#[c]⟩ : ByteArray).data.toList = [c] from rfl, join_lib, List.length_map] at hJ
     refine hJ.mono fun e w' ⟨he, hw⟩ => ?_
     exact ⟨Fr.of_below hw, _, he, .gr (.atom (.im (.s _)))⟩
theorem iNames_con (s : Bs) (hs : s.length ≤ 1073741824) : Con (E m) 208 0 [.s s] [] (.tup [.own 0, .b (pathOk s)]) [(0, .own 9 ((if pathOk s then names s else []).map fun l => [.s l]))] := by
 match s, hs with
 | [], hs =>
   refine con_of_cd tyOk mix Tryz.func208 rfl rfl rfl (Nat.le_of_ble_eq_true rfl) ?_
   repeat' first | refine Rw ⟨?_⟩ | (refine bsplit.mk (fun h => ?_) (fun h => ?_) <;> (try simp only [decide_eq_true_eq, decide_eq_false_iff_not, Bool.not_eq_true', Bool.not_eq_false', Bool.not_true, Bool.not_false, Bool.true_eq_false, Bool.false_eq_true, List.length_map] at h) <;> conv => whnf) | refine Rs ⟨?_⟩ | fail
   · exact Rf
   · exact absurd trivial ‹¬True›
 | x :: r, hs =>
   have hs' : (((x :: r).take (x :: r).length).drop 1).length < 4294967281 := by simp at hs ⊢; omega
   have hc := split_con (m := m) (((x :: r).take (x :: r).length).drop 1) 47 hs'
   rw [show cut 47 (((x :: r).take (x :: r).length).drop 1) = cut 47 r by rw [List.take_length]; rfl] at hc
   have hpc := cut_piece 47 r
   have hn : names (x :: r) = if x = 47 ∧ r ≠ [] then cut 47 r else [] := rfl
   have bad : pathOk (x :: r) = false → (if pathOk (x :: r) then names (x :: r) else []) = [] := fun h => by rw [h]; rfl
   refine con_of_cd tyOk mix Tryz.func208 rfl rfl rfl (Nat.le_of_ble_eq_true rfl) ?_
   repeat' first | refine Rw ⟨?_⟩ | (refine bsplit.mk (fun h => ?_) (fun h => ?_) <;> (try simp only [decide_eq_true_eq, decide_eq_false_iff_not, Bool.not_eq_true', Bool.not_eq_false', Bool.not_true, Bool.not_false, Bool.true_eq_false, Bool.false_eq_true, List.length_map] at h) <;> conv => whnf) | (refine Rc [] 1 rfl rfl (hc) ?_; conv => whnf) | refine Rs ⟨?_⟩ | fail
   · exact absurd ‹x :: r = []› (by simp)
   · have hx : x ≠ 47 := fun e => ‹¬((x.toNat : Int) = 47)› (by rw [e]; rfl)
     have hp : pathOk (x :: r) = false := by
      rw [pathOk_eq (hn.trans (if_neg fun h => hx h.1))]
      simp
     rw [bad hp, hp]
     exact Rf
   · have hp : pathOk (x :: r) = false := by
       have h : ((x :: r).length : Int) > 12 := ‹_›
       have h' : ¬ (x :: r).length ≤ 12 := by omega
       simp only [pathOk, h', decide_false, Bool.false_and]
     rw [bad hp, hp]
     exact Rf
   · have hcl : ((cut 47 r).length : Int) > 3 := ‹_›
     have hr : r ≠ [] := by
      rintro rfl
      simp [cut] at hcl
     have hx : x = 47 := UInt8.toNat_inj.1 (by have h : (x.toNat : Int) = 47 := ‹_›; exact Int.ofNat_inj.1 h)
     have hp : pathOk (x :: r) = false := by
      have h' : ¬ (cut 47 r).length ≤ 3 := by omega
      rw [pathOk_eq (hn.trans (if_pos ⟨hx, hr⟩))]
      simp [h']
     rw [bad hp, hp]
     exact Rf
   · have hx : x = 47 := UInt8.toNat_inj.1 (by have h : (x.toNat : Int) = 47 := ‹_›; exact Int.ofNat_inj.1 h)
     have hlen : (x :: r).length ≤ 12 := by have h : ¬ ((x :: r).length : Int) > 12 := ‹_›; omega
     have hcl : (cut 47 r).length ≤ 3 := by have h : ¬ ((cut 47 r).length : Int) > 3 := ‹_›; omega
     refine Cd.loop (fun n tm S nx => ∃ i : Nat, i ≤ (cut 47 r).length ∧ n = (cut 47 r).length - i ∧ tm = [(4, .own 0), (25, .own 0), (26, .k .i64 ((cut 47 r).map fun l => [D.s l]).length), (27, .k .i64 i)] ∧ S = [(0, .own 9 ((cut 47 r).map fun l => [.s l]))] ∧ nx = 1 ∧ ((cut 47 r).take i).all nameOk = true) ⟨(cut 47 r).length, ?_⟩ ?_
     · refine la [4, 25, 26, 27] ?_
       conv => whnf
       refine ⟨rfl, rfl, 0, Nat.zero_le _, rfl, rfl, rfl, rfl, rfl⟩
     · rintro n tm S nx ⟨i, hi, hn2, rfl, rfl, rfl, ha⟩
       by_cases hlt : i < (cut 47 r).length
       · have hpi := hpc _ (List.getElem_mem hlt)
         repeat' first | refine Rw ⟨?_⟩ | (refine bsplit.mk (fun h => ?_) (fun h => ?_) <;> (try simp only [decide_eq_true_eq, decide_eq_false_iff_not, Bool.not_eq_true', Bool.not_eq_false', Bool.not_true, Bool.not_false, Bool.true_eq_false, Bool.false_eq_true, List.length_map] at h) <;> conv => whnf) | (refine Rc [] 0 rfl rfl (iName_con (cut 47 r)[i] (by simp at hs; omega)) ?_; conv => whnf) | refine Rs ⟨?_⟩ | fail
         · have hf : (cut 47 r).all nameOk = false := all_false (List.getElem?_eq_getElem hlt) ‹_›
           have hp : pathOk (x :: r) = false := by
            by_cases hr : r = []
            · rw [pathOk_eq (hn.trans (if_neg fun h => h.2 hr))]
              simp
            · rw [pathOk_eq (hn.trans (if_pos ⟨hx, hr⟩))]
              simp [hf]
           rw [bad hp, hp]
           exact Rf
         · refine .here ⟨n - 1, by omega, ?_⟩
           refine la [4, 25, 26, 27] ?_
           conv => whnf
           refine ⟨rfl, rfl, i + 1, by omega, by omega, rfl, rfl, rfl, all_take_succ ha (List.getElem?_eq_getElem hlt) ‹_›⟩
         · exact absurd hlt (by omega)
       · have hal : (cut 47 r).all nameOk = true := all_take_full ha (by omega)
         have hr : r ≠ [] := by
          rintro rfl
          simp [cut, nameOk] at hal
         have hne := List.length_pos_iff.2 (cut_ne 47 r)
         have hp : pathOk (x :: r) = true := by
          have h1 : 1 ≤ (cut 47 r).length := by omega
          have h0 : r.length + 1 ≤ 12 := by simpa using hlen
          rw [pathOk_eq (hn.trans (if_pos ⟨hx, hr⟩))]
          simp only [hal, hlen, h1, hcl, decide_true, Bool.and_self]
         have hnn : names (x :: r) = cut 47 r := by rw [hn, if_pos ⟨hx, hr⟩]
         have good : (if pathOk (x :: r) then names (x :: r) else []) = cut 47 r := by rw [hp, hnn]; rfl
         rw [good, hp]
         repeat' first | refine Rw ⟨?_⟩ | (refine bsplit.mk (fun h => ?_) (fun h => ?_) <;> (try simp only [decide_eq_true_eq, decide_eq_false_iff_not, Bool.not_eq_true', Bool.not_eq_false', Bool.not_true, Bool.not_false, Bool.true_eq_false, Bool.false_eq_true, List.length_map] at h) <;> conv => whnf) | refine Rs ⟨?_⟩ | fail
         · exact absurd hlt (by omega)
         · exact Rf
theorem iPathOk_con (s : Bs) (hs : s.length ≤ 1073741824) : Con (E m) 144 0 [.s s] [] (.b (pathOk s)) [] := by
 refine con_of_cd tyOk mix Tryz.func144 rfl rfl rfl (Nat.le_of_ble_eq_true rfl) ?_
 repeat' first | refine Rw ⟨?_⟩ | (refine bsplit.mk (fun h => ?_) (fun h => ?_) <;> (try simp only [decide_eq_true_eq, decide_eq_false_iff_not, Bool.not_eq_true', Bool.not_eq_false', Bool.not_true, Bool.not_false, Bool.true_eq_false, Bool.false_eq_true, List.length_map] at h) <;> conv => whnf) | (refine Rc [] 1 rfl rfl (iNames_con s hs) ?_; conv => whnf) | refine Rs ⟨?_⟩ | fail
 exact Rf
theorem iUp_con (s : Bs) (hs : s.length ≤ 1073741824) : Con (E m) 265 0 [.s s] [] (.s (pathUp s)) [] := by
 have h1 := iNames_con (m := m) s hs
 cases hok : pathOk s with
 | false =>
   simp only [hok] at h1
   have hx : pathUp s = [] := by simp [pathUp, hok]
   rw [hx]
   refine con_of_cd tyOk mix Tryz.func265 rfl rfl rfl (Nat.le_of_ble_eq_true rfl) ?_
   repeat' first | refine Rw ⟨?_⟩ | (refine bsplit.mk (fun h => ?_) (fun h => ?_) <;> (try simp only [decide_eq_true_eq, decide_eq_false_iff_not, Bool.not_eq_true', Bool.not_eq_false', Bool.not_true, Bool.not_false, Bool.true_eq_false, Bool.false_eq_true, List.length_map] at h) <;> conv => whnf) | (refine Rc [] 1 rfl rfl (h1) ?_; conv => whnf) | refine Rs ⟨?_⟩ | fail
   exact Rf
 | true =>
   simp only [hok, if_true] at h1
   have hp := path_names hok
   have hpl := names_piece s
   have hj := join_con (m := m) ((names s).take ((names s).length - 1)) 47 (by rw [List.length_take]; omega) (by
    rw [← List.dropLast_eq_take]
    have := pathUp_len s
    rw [pathUp_join hok] at this
    simp at this
    omega)
   rw [List.map_take] at hj
   have hx : pathUp s = [47] ++ join 47 ((names s).take ((names s).length - 1)) := by
    rw [pathUp_join hok, List.dropLast_eq_take]
    rfl
   have hlj : (join 47 ((names s).take ((names s).length - 1))).length ≤ 12 := by
    have := pathUp_len s
    rw [hx] at this
    simp at this
    omega
   rw [hx]
   refine con_of_cd tyOk mix Tryz.func265 rfl rfl rfl (Nat.le_of_ble_eq_true rfl) ?_
   repeat' first | refine Rw ⟨?_⟩ | (refine bsplit.mk (fun h => ?_) (fun h => ?_) <;> (try simp only [decide_eq_true_eq, decide_eq_false_iff_not, Bool.not_eq_true', Bool.not_eq_false', Bool.not_true, Bool.not_false, Bool.true_eq_false, Bool.false_eq_true, List.length_map] at h) <;> conv => whnf) | (refine Rc [] 1 rfl rfl (h1) ?_; conv => whnf) | (refine Rc [] 0 rfl rfl (hj) ?_; conv => whnf) | (refine ⟨(names s).length - 1, by simp only [List.length_map]; omega, ?_⟩; conv => whnf) | refine Rs ⟨?_⟩ | fail
   exact Rf
theorem iData_con (s : Bs) (hs : s.length ≤ 1073741824) : Con (E m) 237 0 [.s s] [] (.b (dataOk s)) [] := by
 refine con_of_cd tyOk mix Tryz.func237 rfl rfl rfl (Nat.le_of_ble_eq_true rfl) ?_
 repeat' first | refine Rw ⟨?_⟩ | (refine bsplit.mk (fun h => ?_) (fun h => ?_) <;> (try simp only [decide_eq_true_eq, decide_eq_false_iff_not, Bool.not_eq_true', Bool.not_eq_false', Bool.not_true, Bool.not_false, Bool.true_eq_false, Bool.false_eq_true, List.length_map] at h) <;> conv => whnf) | refine Rs ⟨?_⟩ | fail
 · have : ¬ s.length ≤ 6 := by omega
   refine Rg ⟨?_⟩
   first | rfl | (simp_all [dataOk]; done) | (simp [dataOk] <;> (repeat' split) <;> omega) | (simp only [dataOk]; repeat' split) <;> first | omega | (simp_all; done) | (simp_all; omega) | (rw [Bool.eq_iff_iff]; simp [*, dataOk] <;> omega)
 refine Cd.loop (fun n tm S nx => ∃ i : Nat, i ≤ s.length ∧ n = s.length - i ∧ tm = [(0, .s s), (3, .k .i64 i)] ∧ S = [] ∧ nx = 0 ∧ (s.take i).all (fun b => lower b || digit b) = true) ⟨s.length, ?_⟩ ?_
 · refine la [0, 3] ?_
   conv => whnf
   refine ⟨rfl, rfl, 0, Nat.zero_le _, rfl, rfl, rfl, rfl, rfl⟩
 · rintro n tm S nx ⟨i, hi, hn, rfl, rfl, rfl, ha⟩
   repeat' first | refine Rw ⟨?_⟩ | (refine bsplit.mk (fun h => ?_) (fun h => ?_) <;> (try simp only [decide_eq_true_eq, decide_eq_false_iff_not, Bool.not_eq_true', Bool.not_eq_false', Bool.not_true, Bool.not_false, Bool.true_eq_false, Bool.false_eq_true, List.length_map] at h) <;> conv => whnf) | refine Rs ⟨?_⟩ | fail
   all_goals first
    | (have hf : s.all (fun b => lower b || digit b) = false := all_false (List.getElem?_eq_getElem (by omega : i < s.length)) (ld_false (by omega))
       (first | refine CallEnd.here (fa ?_) | refine fa ?_)
       conv => whnf
       refine ⟨rfl, rfl, congrArg some (congrArg D.b ?_), rfl⟩
       first | (simp_all [dataOk]; done) | (rw [Bool.eq_iff_iff]; simp [*, dataOk] <;> omega))
    | (refine .here ⟨n - 1, by omega, ?_⟩
       refine la [0, 3] ?_
       conv => whnf
       refine ⟨rfl, rfl, i + 1, by omega, by omega, rfl, rfl, rfl, all_take_succ ha (List.getElem?_eq_getElem (by omega : i < s.length)) (ld_true (by omega))⟩)
    | (have hf : s.all (fun b => lower b || digit b) = true := all_take_full ha (by omega)
       (first | refine CallEnd.here (fa ?_) | refine fa ?_)
       conv => whnf
       refine ⟨rfl, rfl, congrArg some (congrArg D.b ?_), rfl⟩
       first | (simp_all [dataOk]; done) | (rw [Bool.eq_iff_iff]; simp [*, dataOk] <;> omega))
def entD : Option Ent → D
 | some e => .tup [.agg e.c, .b true]
 | none => .tup [.agg [.s [], .b false, .s []], .b false]
theorem entAt_at {t : List Ent} {p : Bs} {i : Nat} {e : Ent} (h : t[i]? = some e) (hp : e.path = p) (hb : ∀ k e, k < i → t[k]? = some e → e.path ≠ p) : entAt t p = some e := by
 rcases entIx_or t p with ⟨j, hx, hj, he⟩ | ⟨hx, he⟩
 · rw [entIx_at h hp hb] at hx
   have : i = j := by omega
   subst this
   rw [List.getElem?_eq_getElem hj] at h
   rw [he, h]
 · rw [entIx_at h hp hb] at hx
   omega
theorem entAt_miss {t : List Ent} {p : Bs} (hb : ∀ (k : Nat) e, t[k]? = some e → e.path ≠ p) : entAt t p = none := by
 rcases entIx_or t p with ⟨j, hx, hj, he⟩ | ⟨hx, he⟩
 · rw [entIx_none hb] at hx
   omega
 · exact he
theorem iAt_con (t : List Ent) (p : Bs) (ht : t.length ≤ 1073741824) : Con (E m) 284 0 [.sl (t.map Ent.c), .s p] [] (entD (entAt t p)) [] := by
 refine con_of_cd tyOk mix Tryz.func284 rfl rfl rfl (Nat.le_of_ble_eq_true rfl) ?_
 repeat' first | refine Rw ⟨?_⟩ | (refine bsplit.mk (fun h => ?_) (fun h => ?_) <;> (try simp only [decide_eq_true_eq, decide_eq_false_iff_not, Bool.not_eq_true', Bool.not_eq_false', Bool.not_true, Bool.not_false, Bool.true_eq_false, Bool.false_eq_true, List.length_map] at h) <;> conv => whnf) | refine Rs ⟨?_⟩ | fail
 refine Cd.loop (fun n tm S nx => ∃ i : Nat, i ≤ t.length ∧ n = t.length - i ∧ tm = [(1, .s p), (4, .bp 0 0), (8, .sl (t.map Ent.c)), (9, .k .i64 (t.map Ent.c).length), (10, .k .i64 i)] ∧ S = [(0, .box 150 [.s [], .b false, .s []])] ∧ nx = 1 ∧ ∀ k e, k < i → t[k]? = some e → e.path ≠ p) ⟨t.length, ?_⟩ ?_
 · refine la [1, 4, 8, 9, 10] ?_
   conv => whnf
   refine ⟨rfl, rfl, 0, Nat.zero_le _, rfl, rfl, rfl, rfl, fun k e h => absurd h (Nat.not_lt_zero _)⟩
 · rintro n tm S nx ⟨i, hi, hn, rfl, rfl, rfl, ha⟩
   by_cases hlt : i < t.length
   · repeat' first | refine Rw ⟨?_⟩ | (refine bsplit.mk (fun h => ?_) (fun h => ?_) <;> (try simp only [decide_eq_true_eq, decide_eq_false_iff_not, Bool.not_eq_true', Bool.not_eq_false', Bool.not_true, Bool.not_false, Bool.true_eq_false, Bool.false_eq_true, List.length_map] at h) <;> conv => whnf) | refine Rs ⟨?_⟩ | fail
     · have he : entAt t p = some t[i] := entAt_at (List.getElem?_eq_getElem hlt) ‹_› ha
       rw [he]
       exact Rf
     · refine .here ⟨n - 1, by omega, ?_⟩
       refine la [1, 4, 8, 9, 10] ?_
       conv => whnf
       refine ⟨rfl, rfl, i + 1, by omega, by omega, rfl, rfl, rfl, fun k e h1 h2 => ?_⟩
       by_cases hk : k = i
       · subst hk
         rw [List.getElem?_eq_getElem hlt] at h2
         cases h2
         assumption
       · exact ha k e (by omega) h2
     · exact absurd hlt (by omega)
   · repeat' first | refine Rw ⟨?_⟩ | (refine bsplit.mk (fun h => ?_) (fun h => ?_) <;> (try simp only [decide_eq_true_eq, decide_eq_false_iff_not, Bool.not_eq_true', Bool.not_eq_false', Bool.not_true, Bool.not_false, Bool.true_eq_false, Bool.false_eq_true, List.length_map] at h) <;> conv => whnf) | refine Rs ⟨?_⟩ | fail
     · exact absurd hlt (by omega)
     · have he : entAt t p = none := entAt_miss fun k e h => ha k e (by have := (List.getElem?_eq_some_iff.1 h).1; omega) h
       rw [he]
       exact Rf
theorem iUpCode_con (t : List Ent) (p : Bs) (ht : t.length ≤ 1073741824) (hp : p.length ≤ 1073741824) : Con (E m) 238 0 [.sl (t.map Ent.c), .s p] [] (.k .i64 (upCode t p)) [] := by
 have h1 := iUp_con (m := m) p hp
 have h2 := iAt_con (m := m) t (pathUp p) ht
 by_cases hr : pathUp p = [47]
 · have hx : upCode t p = 0 := by simp [upCode, hr]
   rw [hx]
   rw [hr] at h1
   refine con_of_cd tyOk mix Tryz.func238 rfl rfl rfl (Nat.le_of_ble_eq_true rfl) ?_
   repeat' first | refine Rw ⟨?_⟩ | (refine bsplit.mk (fun h => ?_) (fun h => ?_) <;> (try simp only [decide_eq_true_eq, decide_eq_false_iff_not, Bool.not_eq_true', Bool.not_eq_false', Bool.not_true, Bool.not_false, Bool.true_eq_false, Bool.false_eq_true, List.length_map] at h) <;> conv => whnf) | (refine Rc [] 0 rfl rfl (h1) ?_; conv => whnf) | refine Rs ⟨?_⟩ | fail
   all_goals first
    | exact absurd rfl ‹¬([47] : Bs) = [47]›
    | exact absurd trivial ‹¬True›
    | skip
   exact Rf
 · match he : entAt t (pathUp p), h2 with
   | none, h2 =>
     have hx : upCode t p = 2 := by simp [upCode, hr, he]
     rw [hx]
     refine con_of_cd tyOk mix Tryz.func238 rfl rfl rfl (Nat.le_of_ble_eq_true rfl) ?_
     repeat' first | refine Rw ⟨?_⟩ | (refine bsplit.mk (fun h => ?_) (fun h => ?_) <;> (try simp only [decide_eq_true_eq, decide_eq_false_iff_not, Bool.not_eq_true', Bool.not_eq_false', Bool.not_true, Bool.not_false, Bool.true_eq_false, Bool.false_eq_true, List.length_map] at h) <;> conv => whnf) | (refine Rc [] 0 rfl rfl (h1) ?_; conv => whnf) | (refine Rc [] 0 rfl rfl (h2) ?_; conv => whnf) | refine Rs ⟨?_⟩ | fail
     all_goals first
      | exact absurd ‹pathUp p = [47]› hr
      | skip
     exact Rf
   | some e, h2 =>
     have hx : upCode t p = if e.dir then 0 else 3 := by simp [upCode, hr, he]
     rw [hx]
     refine con_of_cd tyOk mix Tryz.func238 rfl rfl rfl (Nat.le_of_ble_eq_true rfl) ?_
     repeat' first | refine Rw ⟨?_⟩ | (refine bsplit.mk (fun h => ?_) (fun h => ?_) <;> (try simp only [decide_eq_true_eq, decide_eq_false_iff_not, Bool.not_eq_true', Bool.not_eq_false', Bool.not_true, Bool.not_false, Bool.true_eq_false, Bool.false_eq_true, List.length_map] at h) <;> conv => whnf) | (refine Rc [] 0 rfl rfl (h1) ?_; conv => whnf) | (refine Rc [] 0 rfl rfl (h2) ?_; conv => whnf) | refine Rs ⟨?_⟩ | fail
     · exact absurd ‹pathUp p = [47]› hr
     all_goals
      exact Rf
end Go.Proofs.YtlicaibhgcenhaaGreatDoor
