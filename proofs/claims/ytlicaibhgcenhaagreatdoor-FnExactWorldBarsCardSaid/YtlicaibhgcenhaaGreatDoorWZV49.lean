/- 'laws.FnExactWorldBars' returns true whatever its arguments are, and leaves the arguments as they were; the package variables that the row lists hold what the program's text lays. -/
import Derived.Test.YtlicaibhgcenhaaGreatDoorWZY28
import Derived.Test.YtlicaibhgcenhaaGreatDoorWZY30
import Derived.Test.YtlicaibhgcenhaaGreatDoorWZY35
set_option linter.unusedSimpArgs false
set_option linter.unusedVariables false
set_option maxHeartbeats 1000000
set_option maxRecDepth 100000
namespace Go.Proofs.YtlicaibhgcenhaaGreatDoor
open Go Go.RowKit Go.Ab Go.Par
variable {m : Int}
theorem bars_len (w : Wld) (p : Opn) : (worldBars w p).length ≤ w.leases.length := by
 unfold worldBars
 split
 · exact List.length_filter_le _ _
 · simp
theorem BW.w {w : Wld} (h : BW w) : BndW w := by
 refine ⟨⟨fun e he => ?_, fun l hl => ⟨fun e he => ?_, (h.o.l l hl).1⟩, fun e he => ?_, h.o.bl, h.o.ll, h.o.ul⟩, fun l hl => ?_, h.ll, fun l hl => ⟨fun e he => ?_, (h.h l hl).1⟩, h.hl, h.fl, fun x hx => ?_, h.nl, ?_⟩
 · have := h.o.b e he; unfold bE1 at this; omega
 · have := (h.o.l l hl).2 e he; unfold bM1 at this; omega
 · have := h.o.u e he; unfold bM1 at this; omega
 · have := h.l l hl; unfold bL at this; unfold bndL; omega
 · have := (h.h l hl).2 e he; unfold bH at this; unfold bndH; omega
 · have := h.n x hx; unfold bM bH at this; unfold bndH; omega
 · have := h.p; unfold bndO; omega
theorem arW {S : Store} {a b c d e f g : Nat} {w : Wld} {z1 z2 : List Slot} {ta tb tb2 tc td te te2 tf tg : TypeId} (h0 : lk S a = some (.own ta (w.over.base.map Ent.c))) (h1 : lk S b = some (.deep tb tb2 z1)) (h2 : lk S c = some (.own tc (w.over.upper.map Mrk.c))) (h3 : lk S d = some (.own td (w.leases.map Lse.c))) (h4 : lk S e = some (.deep te te2 z2)) (h5 : lk S f = some (.own tf (ints w.floors))) (h6 : lk S g = some (.own tg (w.net.map Mes.c))) (g1 : z1 = oZ w.over) (g2 : z2 = hZ w) : argD [] S (.agg (wcT w a b c d e f g)) = some (.agg w.c) := by
 subst g1 g2
 have e1 : (w.over.layers.map fun l => l.map Mrk.c).map (fun xs => [D.sl xs]) = w.over.layers.map layC := by rw [List.map_map]; rfl
 have e2 : (w.holds.map fun l => l.map Hld.c).map (fun xs => [D.sl xs]) = w.holds.map hlsC := by rw [List.map_map]; rfl
 simp only [argD, wcT, argAs, argA, posOf, immA, h0, h1, h2, h3, h4, h5, h6, imB, imZ_an, e1, e2]
 rfl
theorem arWp {S : Store} {a b c d e f g : Nat} {w : Wld} {p : Opn} {z1 z2 : List Slot} {ta tb tb2 tc td te te2 tf tg : TypeId} (h0 : lk S a = some (.own ta (w.over.base.map Ent.c))) (h1 : lk S b = some (.deep tb tb2 z1)) (h2 : lk S c = some (.own tc (w.over.upper.map Mrk.c))) (h3 : lk S d = some (.own td (w.leases.map Lse.c))) (h4 : lk S e = some (.deep te te2 z2)) (h5 : lk S f = some (.own tf (ints w.floors))) (h6 : lk S g = some (.own tg (w.net.map Mes.c))) (g1 : z1 = oZ w.over) (g2 : z2 = hZ w) : argDs [] S [.agg (wcT w a b c d e f g), .agg p.c] = some [.agg w.c, .agg p.c] := by
 have hp : argD [] S (.agg p.c) = some (.agg p.c) := rfl
 simp only [argDs, arW h0 h1 h2 h3 h4 h5 h6 g1 g2, hp]
theorem arWW {S : Store} {a b c d e f g a' b' c' d' e' f' g' : Nat} {w : Wld} {z1 z2 y1 y2 : List Slot} {ta tb tb2 tc td te te2 tf tg ta' tb' tb2' tc' td' te' te2' tf' tg' : TypeId} (h0 : lk S a = some (.own ta (w.over.base.map Ent.c))) (h1 : lk S b = some (.deep tb tb2 z1)) (h2 : lk S c = some (.own tc (w.over.upper.map Mrk.c))) (h3 : lk S d = some (.own td (w.leases.map Lse.c))) (h4 : lk S e = some (.deep te te2 z2)) (h5 : lk S f = some (.own tf (ints w.floors))) (h6 : lk S g = some (.own tg (w.net.map Mes.c))) (g1 : z1 = oZ w.over) (g2 : z2 = hZ w)
   (k0 : lk S a' = some (.own ta' (w.over.base.map Ent.c))) (k1 : lk S b' = some (.deep tb' tb2' y1)) (k2 : lk S c' = some (.own tc' (w.over.upper.map Mrk.c))) (k3 : lk S d' = some (.own td' (w.leases.map Lse.c))) (k4 : lk S e' = some (.deep te' te2' y2)) (k5 : lk S f' = some (.own tf' (ints w.floors))) (k6 : lk S g' = some (.own tg' (w.net.map Mes.c))) (l1 : y1 = oZ w.over) (l2 : y2 = hZ w) : argDs [] S [.agg (wcT w a b c d e f g), .agg (wcT w a' b' c' d' e' f' g')] = some [.agg w.c, .agg w.c] := by
 simp only [argDs, arW h0 h1 h2 h3 h4 h5 h6 g1 g2, arW k0 k1 k2 k3 k4 k5 k6 l1 l2]
theorem domW {c : Nat} {l : List Nat} {w : Wld} (h : ltB c l = true) : (ltB c l && domB c (wT w)) = true := by
 simp only [h, domB, blkNames, names_an]
 rfl
theorem st7 {S : Store} {a b c d e f g : Nat} {w : Wld} {z1 z2 : List Slot} {ta tb tb2 tc td te te2 tf tg : TypeId} (h0 : lk S a = some (.own ta (w.over.base.map Ent.c))) (h1 : lk S b = some (.deep tb tb2 z1)) (h2 : lk S c = some (.own tc (w.over.upper.map Mrk.c))) (h3 : lk S d = some (.own td (w.leases.map Lse.c))) (h4 : lk S e = some (.deep te te2 z2)) (h5 : lk S f = some (.own tf (ints w.floors))) (h6 : lk S g = some (.own tg (w.net.map Mes.c))) (g1 : z1 = oZ w.over) (g2 : z2 = hZ w) :
   argS [a, b, c, d, e, f, g] S [a, b, c, d, e, f, g] 0 = some [(0, .own ta (w.over.base.map Ent.c)), (1, .deep tb tb2 (oZ w.over)), (2, .own tc (w.over.upper.map Mrk.c)), (3, .own td (w.leases.map Lse.c)), (4, .deep te te2 (hZ w)), (5, .own tf (ints w.floors)), (6, .own tg (w.net.map Mes.c))] := by
 subst g1 g2
 simp only [argS, h0, h1, h2, h3, h4, h5, h6, argB, imZ_an]
theorem lent7 {S : Store} {ds : List D} {a b c d e f g : Nat} {w : Wld} {z1 z2 : List Slot} {ta tb tb2 tc td te te2 tf tg : TypeId} (h0 : lk S a = some (.own ta (w.over.base.map Ent.c))) (h1 : lk S b = some (.deep tb tb2 z1)) (h2 : lk S c = some (.own tc (w.over.upper.map Mrk.c))) (h3 : lk S d = some (.own td (w.leases.map Lse.c))) (h4 : lk S e = some (.deep te te2 z2)) (h5 : lk S f = some (.own tf (ints w.floors))) (h6 : lk S g = some (.own tg (w.net.map Mes.c))) (g1 : z1 = oZ w.over) (g2 : z2 = hZ w) (hm : minus [a, b, c, d, e, f, g] (nmDs ds ++ []) = []) :
   lent [a, b, c, d, e, f, g] ds S = [] := by
 subst g1 g2
 unfold lent
 simp only [storeNames, h0, h1, h2, h3, h4, h5, h6, blkNames, names_an, List.append_nil] at hm ⊢
 exact hm
theorem law_FnExactWorldBars (w : Wld) (p : Opn) (hw : WW w) (h1 : p.path.length ≤ 9223372036854775807) (h2 : p.tgt.length ≤ 9223372036854775807) (h3 : p.data.length ≤ 9223372036854775807) : Con (E m) 6 0 [.agg w.c, .agg p.c] [] (.b true) [] := by
 obtain ⟨n1, z1, y1⟩ := szWorld_any (m := m) w 1048576 (by omega) hw
 rcases y1 with rfl | ⟨y1, y2, y3⟩
 · refine con_of_cd tyOk mix Tryz.func6 rfl rfl rfl (Nat.le_of_ble_eq_true rfl) ?_
   repeat' first | refine Ra ⟨?_⟩ | refine R0 z1 ⟨?_⟩ | refine Rd (fun h => ⟨?_⟩) fun h => ⟨?_⟩ | refine Rb ⟨?_⟩ | fail
   exact Rf
 · have z2 := szOp_con (m := m) p n1 (by omega) h1 h2 h3
   have h6 := less3_or n1 p.path.length p.tgt.length p.data.length
   generalize less3 n1 p.path.length p.tgt.length p.data.length = n2 at z2 h6
   by_cases g2 : n2 < 0
   · refine con_of_cd tyOk mix Tryz.func6 rfl rfl rfl (Nat.le_of_ble_eq_true rfl) ?_
     repeat' first | refine Ra ⟨?_⟩ | refine R0 z1 ⟨?_⟩ | refine R0 z2 ⟨?_⟩ | refine Rd (fun h => ⟨?_⟩) fun h => ⟨?_⟩ | refine Rb ⟨?_⟩ | fail
     exact Rf
   · have hp : bndO 1073741823 p := by unfold bndO; omega
     have c1 := toWorld_con (m := m) w y3
     have c2 := toOp_con (m := m) p
     have c3 := sWorldBars_con (m := m) w p y3.w hp
     have c4 := iWorldBars_con (m := m) w p y3.w hp
     have hl := bars_len w p
     have hll := y3.ll
     generalize worldBars w p = P at c3 c4 hl
     have c5 := eqLeaseS_con (m := m) P (by omega)
     have c6 := eqWorld_con (m := m) w y3
     have c7 := markWorld_con (m := m) w 1 (by omega) y3
     have hk : 0 ≤ mkW w 1 := by unfold mkW; omega
     generalize mkW w 1 = K at c7 hk
     have m1 := markLeaseS_con (m := m) P 1 (by omega) (by omega)
     have m2 := heldLeaseS_con (m := m) P.length 1 (by omega) (by omega)
     refine con_of_cd tyOk mix Tryz.func6 rfl rfl rfl (Nat.le_of_ble_eq_true rfl) ?_
     repeat' first | refine Ra ⟨?_⟩ | refine R0 z1 ⟨?_⟩ | refine R0 z2 ⟨?_⟩ | (refine Rc [] 7 rfl rfl c1 ?_ rfl rfl (domW rfl) <;> conv => whnf) | refine R0 c2 ⟨?_⟩ | (refine ⟨[], _, _, _, _, 1, ⟨rfl, arWp (w := w) (p := p) rfl rfl rfl rfl rfl rfl rfl (ren_an _ _) (ren_an _ _), rfl, c3, rfl, rfl⟩, .inl ⟨[], trivial, rfl, .inl ⟨by simp [NoImmD, NoImmG, NoImmA], by simp [NoImmS, NoImmB, NoImmA, Lse.c]⟩, ?_⟩⟩ <;> conv => whnf) | (refine ⟨[], _, _, _, _, 1, ⟨rfl, arWp (w := w) (p := p) rfl rfl rfl rfl rfl rfl rfl (ren_an _ _) (ren_an _ _), rfl, c4, rfl, rfl⟩, .inl ⟨[], trivial, rfl, .inl ⟨by simp [NoImmD, NoImmG, NoImmA], by simp [NoImmS, NoImmB, NoImmA, Lse.c]⟩, ?_⟩⟩ <;> conv => whnf) | (refine ⟨[], _, _, _, _, 0, ⟨rfl, rfl, rfl, c5, rfl, rfl⟩, .inl ⟨[], trivial, rfl, .inl ⟨by simp [NoImmD, NoImmG, NoImmA], by simp [NoImmS, NoImmB, NoImmA, Ent.c, Mrk.c, Opn.c]⟩, ?_⟩⟩ <;> conv => whnf) | (refine ⟨[], _, _, _, _, 0, ⟨rfl, arWW (w := w) rfl rfl rfl rfl rfl rfl rfl (ren_an _ _) (ren_an _ _) rfl rfl rfl rfl rfl rfl rfl (ren_an _ _) (ren_an _ _), rfl, c6, rfl, rfl⟩, .inl ⟨[], trivial, rfl, .inl ⟨by simp [NoImmD, NoImmG, NoImmA], by simp [NoImmS, NoImmB, NoImmA]⟩, ?_⟩⟩ <;> conv => whnf) | (refine ⟨[10, 11, 12, 13, 14, 15, 16], _, _, _, _, 0, ⟨rfl, rfl, st7 rfl rfl rfl rfl rfl rfl rfl (ren_an _ _) (ren_an _ _), c7, rfl, domW rfl⟩, .inl ⟨[], trivial, rfl, .inr (lent7 rfl rfl rfl rfl rfl rfl rfl (ren_an _ _) (ren_an _ _) rfl), ?_⟩⟩ <;> conv => whnf) | refine Rk [18] 0 m1 ⟨?_⟩ | (refine ⟨[], _, _, _, _, 0, ⟨rfl, rfl, rfl, m2, rfl, rfl⟩, .inl ⟨[], trivial, rfl, .inl ⟨by simp [NoImmD, NoImmG, NoImmA], by simp [NoImmS, NoImmB, NoImmA, Ent.c, Mrk.c, Opn.c]⟩, ?_⟩⟩ <;> conv => whnf) | refine Rd (fun h => ⟨?_⟩) fun h => ⟨?_⟩ | refine Rb ⟨?_⟩ | fail
     exact Rf
theorem FnExactWorldBars_con (cds : List D) (h : ShpAll Tryz.prog Tryz.f6.params.toList cds) : Con (E m) 6 0 cds [] (.b true) [] := by
 rw [Tryz.params6] at h
 match cds, h with
 | [d1, d2], ⟨h1, h2, _⟩ =>
   obtain ⟨w, rfl, hw⟩ := lWorld_shp h1
   obtain ⟨p, rfl, q1, q2, q3⟩ := lOp_shp h2
   exact law_FnExactWorldBars w p hw q1 q2 q3
open Go.ChangeShapes Go.WideShapes Go.ChangeAt in
theorem FnExactWorldBars_lifted (os : Os) (started : os.Started) (H : Type) (enc : TypeId × Value → H) :
   ReturnsInHanded {} Tryz.checked os 6 .any (fun w args => (Rows.fnExactWorldBarsSpec.pre enc Tryz.prog Tryz.f6 Rows.fnExactWorldBarsRow.domain false w args ∧ laidMetH Tryz.prog Rows.fnExactWorldBarsRow.laid w) ∧ sizedMet enc Tryz.prog Tryz.f6 (OpenSpec.ofChange Rows.fnExactWorldBarsSpec) false w args)
     (Rows.fnExactWorldBarsSpec.post enc Tryz.prog Tryz.f6 false true false false) := by
 refine returns_laid (C := Tryz.checked) (X := fun w _ => laidMetH Tryz.prog Rows.fnExactWorldBarsRow.laid w) (fun _ _ _ hh h => h.of_heap hh) own0 started (by kernel_rfl) Tryz.func6
  (ChangeSpec.witness_shaped (enc := enc) (C := Tryz.checked) (os := os) (X := fun w _ => laidMetH Tryz.prog Rows.fnExactWorldBarsRow.laid w) false (World.laidAll Tryz.prog os Rows.fnExactWorldBarsRow.laid) #[.agg #[.slice none 0 0, .slice none 0 0, .slice none 0 0, .int .i64 0, .int .i64 0, .slice none 0 0, .slice none 0 0, .slice none 0 0, .slice none 0 0, .bool false, .int .i64 0, .string ⟨#[]⟩, .string ⟨#[]⟩, .string ⟨#[]⟩], .agg #[.int .i64 0, .string ⟨#[]⟩, .string ⟨#[]⟩, .string ⟨#[]⟩]] 8 (World.laidAll_os _ _ _)
   (World.shaped_of_ZipB (by kernel_rfl) (by kernel_rfl)) (by kernel_rfl) (by kernel_rfl) (by kernel_rfl)
   (by rw [MakeChecks.laidMetH_plain _ _ _ (by kernel_rfl)]; exact laidMet_laidAll _ (by kernel_rfl) (by kernel_rfl))) ?_
 intro W base args ds gs before hval hW hsh _
 obtain ⟨m, hm⟩ := maxLen_shaped W hsh
 exact law_calls_gl (E := E m) (dp := 8) (bt := 4) laidOut0 (readB_mem (by kernel_rfl)) (by kernel_rfl) Tryz.underlying4 (by kernel_rfl) rfl (fun H ds hl => match ds, hl with
  | [d1, d2], _ => rfl) FnExactWorldBars_con W (gl_m hm) base args ds gs before hval hW
theorem FnExactWorldBars_place : (Rows.fnExactWorldBarsRow.inPlace == Tryz.prog.inPlace 6) = true := by kernel_rfl
theorem FnExactWorldBars_unf : (Rows.fnExactWorldBarsRow.unfollowed == Tryz.prog.unfollowed 6) = true := by kernel_rfl
theorem FnExactWorldBars_rec : (Rows.fnExactWorldBarsRow.recurses == Tryz.prog.recurses 6) = true := by kernel_rfl
theorem FnExactWorldBars_named : (Rows.fnExactWorldBarsRow.named == Tryz.prog.varsNamed 6) = true := by kernel_rfl
theorem FnExactWorldBars_joined : joinedFacts Tryz.prog 6 Tryz.f6 Rows.fnExactWorldBarsSpec Rows.fnExactWorldBarsRow = true :=
 joined_of (by kernel_rfl) laidOut0 rowed0 (by kernel_rfl) (by kernel_rfl) (by kernel_rfl) (by rw [stops0]; rfl) (by kernel_rfl) (by rw [knobs0]; rfl) FnExactWorldBars_place FnExactWorldBars_unf FnExactWorldBars_rec FnExactWorldBars_named
  (by kernel_rfl) (by kernel_rfl) (by kernel_rfl) (by kernel_rfl) (by kernel_rfl) (by kernel_rfl) (by kernel_rfl) (by kernel_rfl) (by kernel_rfl) (by rw [plainKeys0]; rfl) (by kernel_rfl) heard0 may0 (by rw [lifts0]; rfl) (by rw [make0]; rfl) (by kernel_rfl) (by kernel_rfl) (by kernel_rfl) (by kernel_rfl)
theorem FnExactWorldBars_holds : Rows.FnExactWorldBarsSaid :=
 OpenClaim.holds_of_wide 6 Tryz.f6 rfl rfl rfl rfl rfl rfl rfl ⟨rfl, rfl, rfl, rfl, rfl⟩ rfl rfl rfl rfl rfl (by kernel_rfl) Tryz.func6 FnExactWorldBars_joined
  (of_decide_eq_true (by kernel_rfl)) (by unfold Func.isWrapper; first | (rw [if_pos (by decide +kernel)]; kernel_rfl) | (rw [if_neg (by decide +kernel)]; exact ⟨rfl, rfl⟩))
  (fun os started H enc _ => FnExactWorldBars_lifted os started H enc)
theorem FnExactWorldBars_card : Rows.FnExactWorldBarsCardSaid :=
 Claim7.holds_tied_plain_at .later [] [.data, .pinned] true _ false FnExactWorldBars_holds (fun _ h => by cases h) (by kernel_rfl) (fun _ h => by cases h) fnExactWorldBars_row_tie rfl ⟨rfl, rfl⟩ (mainIs0.trans (by kernel_rfl)) rfl
  (fun f fn hf hfn => by
   obtain rfl : f = 6 := Option.some.inj ((show Tryz.prog.funcNamed "loop.example/pargeting/laws.FnExactWorldBars" = some 6 by kernel_rfl).symm.trans hf) |>.symm
   obtain rfl : fn = Tryz.f6 := (Option.some.inj (Tryz.func6.symm.trans hfn)).symm
   exact ⟨looks0.symm, fun j t ht => by
    have hm : t ∈ Tryz.f6.params.toList := by simpa using Array.mem_of_getElem? ht
    have hall : (Tryz.f6.params.toList.all fun u => !Tryz.prog.wantsStandIn u) = true := by kernel_rfl
    exact (show Tryz.prog.wantsStandIn t = false by simpa using List.all_eq_true.1 hall t hm)⟩)
  (goes0 _ rfl)
end Go.Proofs.YtlicaibhgcenhaaGreatDoor
