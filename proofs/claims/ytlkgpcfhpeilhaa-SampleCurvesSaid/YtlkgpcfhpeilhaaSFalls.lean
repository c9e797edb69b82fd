/-
  SampleFalls answers true at any four integers, as the evaluator runs it. No condition.
-/
import Derived.Test.YtlkgpcfhpeilhaaSCurve
set_option linter.unusedVariables false
set_option linter.unusedSimpArgs false
namespace Go.Proofs.Ytlkgpcfhpeilhaa.Ev
open Go Go.AEv

attribute [local simp] evFunc initS evOps_c evTrim_c evSkip_c evExit_c evRet_c evSeq_c evCond_c evBlock_c evDraw_c runOps_n runOps_c exec_n exec_g pure1_c act AOpd.ev T.get T.set T.put evBin evUn forceT_eq forceV_eq forceL_eq evRess evRes one keep runFP_n runFP_c app_none AV.flats AV.flat

/-- A list of fractions in memory, with others behind it. -/
structure LH (J : CallF) (lot n c : Int) (B : Nat) (U V : Nat → Int) (cs : List AV) (ts : List AObj) (L vv : Nat) : Prop where
  t1 : ts.length = L
  t2 : ∀ X : AObj, (ts ++ [X])[L]? = some X
  t3 : ∀ X Y : AObj, (ts ++ [X]).set L Y = ts ++ [Y]
  c1 : ∀ d, d < lot.toNat + 1 → (cs.drop (d * 2)).take 2 = [G (U d), G (V d)]
  q26 : ∀ (h : Heap) d, d < lot.toNat + 1 → J 26 [.agg [G (U d), G (V d)]] h = some (.bool true, [], false)
  q27 : ∀ (h : Heap) d, d < lot.toNat → J 27 [.agg [G (U d), G (V d)], .agg [G (U (d + 1)), G (V (d + 1))]] h = some (.bool false, [], false)

structure H9 (J : CallF) (x0 x1 x2 y lot n c : Int) (B : Nat) (U V : Nat → Int) (cs : List AV) (ts : List AObj) (L vv : Nat) (t0 : AObj) : Prop extends LH J lot n c B U V cs ts L vv where
  e1 : lotZ x0 = lot
  e2 : nZ x0 x1 = n
  e3 : cZ x0 x1 x2 = c
  e4 : mdZ y (lot + 1) = B
  e5 : ownC (cU lot n c) (cV lot n c) lot.toNat = .cells 0 1369 (tri 37 0) :: t0 :: .cells 2 vv cs :: ts
  e6 : 2 * (lot.toNat + 1) = vv
  e7 : fr (acc lot B n (c.toNat + 1)) (ofZ lot B) = .agg [G (U B), G (V B)]
  r1 : 1 ≤ lot ∧ lot ≤ 36
  r2 : 1 ≤ n ∧ n ≤ lot
  r3 : 0 ≤ c ∧ c < n
  r4 : (B : Int) ≤ lot

section
variable {x0 x1 x2 y lot n c : Int} {B : Nat} {U V : Nat → Int} {cs : List AV} {ts : List AObj} {L vv : Nat} {t0 : AObj}
theorem f9_0 (J : CallF) (K : Kn4 J) (H : H9 J x0 x1 x2 y lot n c B U V cs ts L vv t0) : Tr tbl J c9_o0 (fun s h => s = T.set (T.set .leaf [] (.agg [G x0, G x1, G x2])) [false] (G y) ∧ h = ⟨e0.get, 0, []⟩) .normal (fun s h => s.get [false] = G y ∧ s.get [true] = .ptr 0 0 3 ∧ h = ⟨e0.get, 0, [.cells 0 3 [G x0, G x1, G x2]]⟩) := Tr.region fun s h hp => by
  obtain ⟨rfl, rfl⟩ := hp
  obtain ⟨⟨t1, t2, t3, c1, q26, q27⟩, e1, e2, e3, e4, e5, e6, e7, r1, r2, r3, r4⟩ := H
  simp (disch := first | omega | exact getEq rfl | exact getO0 | exact Nat.le_of_ble_eq_true rfl) [c9_o0, came_some, goI, List.getElem?_cons_zero, List.getElem?_cons_succ, kn, keep, frameOf, Heap.size, Heap.get, Eff.app, Heap.setOwn, putAt, AV.cells, fillA, loadA, takeA, mk, Eff.isAll, Eff.isNone, Eff.commutes, Eff.spares, okPair, apart, eqAgg, fits, LK.fits, allEq, aveq, eqk, mmA, beqT, wrapI, idxI, tdivI, tmodI, decT, decF, ibT, ibF, inT, inF, evScope_c, if_pos, if_neg]
theorem f9_1 (J : CallF) (K : Kn4 J) (H : H9 J x0 x1 x2 y lot n c B U V cs ts L vv t0) : Tr tbl J c9_o1 (fun s h => s.get [false] = G y ∧ s.get [true] = .ptr 0 0 3 ∧ h = ⟨e0.get, 0, [.cells 0 3 [G x0, G x1, G x2]]⟩) .normal (fun s h => s.get [false] = G y ∧ s.get [false, true] = G lot ∧ s.get [true, true] = G n ∧ s.get [false, false, false] = G c ∧ h = ⟨e0.get, 0, [.cells 0 3 [G x0, G x1, G x2]]⟩) := Tr.region fun s h hp => by
  obtain ⟨g0, g1, rfl⟩ := hp
  obtain ⟨⟨t1, t2, t3, c1, q26, q27⟩, e1, e2, e3, e4, e5, e6, e7, r1, r2, r3, r4⟩ := H
  simp (disch := first | omega | exact getEq rfl | exact getO0 | exact Nat.le_of_ble_eq_true rfl) [c9_o1, came_some, goI, List.getElem?_cons_zero, List.getElem?_cons_succ, kn, keep, frameOf, Heap.size, Heap.get, Eff.app, Heap.setOwn, putAt, AV.cells, fillA, loadA, takeA, mk, Eff.isAll, Eff.isNone, Eff.commutes, Eff.spares, okPair, apart, eqAgg, fits, LK.fits, allEq, aveq, eqk, mmA, beqT, wrapI, idxI, tdivI, tmodI, decT, decF, ibT, ibF, inT, inF, evScope_c, if_pos, if_neg, g0, g1, K.k22, e1, e2, e3]
theorem f9_2 (J : CallF) (K : Kn4 J) (H : H9 J x0 x1 x2 y lot n c B U V cs ts L vv t0) : Tr tbl J c9_o2 (fun s h => s.get [false] = G y ∧ s.get [false, true] = G lot ∧ s.get [true, true] = G n ∧ s.get [false, false, false] = G c ∧ h = ⟨e0.get, 0, [.cells 0 3 [G x0, G x1, G x2]]⟩) .normal (fun s h => s.get [false] = G B ∧ s.get [false, true] = G lot ∧ s.get [true, true] = G n ∧ s.get [false, false, false] = G c ∧ h = ⟨e0.get, 0, [.cells 0 3 [G x0, G x1, G x2]]⟩) := Tr.region fun s h hp => by
  obtain ⟨g0, g1, g2, g3, rfl⟩ := hp
  obtain ⟨⟨t1, t2, t3, c1, q26, q27⟩, e1, e2, e3, e4, e5, e6, e7, r1, r2, r3, r4⟩ := H
  simp (disch := first | omega | exact getEq rfl | exact getO0 | exact Nat.le_of_ble_eq_true rfl) [c9_o2, came_some, goI, List.getElem?_cons_zero, List.getElem?_cons_succ, kn, keep, frameOf, Heap.size, Heap.get, Eff.app, Heap.setOwn, putAt, AV.cells, fillA, loadA, takeA, mk, Eff.isAll, Eff.isNone, Eff.commutes, Eff.spares, okPair, apart, eqAgg, fits, LK.fits, allEq, aveq, eqk, mmA, beqT, wrapI, idxI, tdivI, tmodI, decT, decF, ibT, ibF, inT, inF, evScope_c, if_pos, if_neg, g0, g1, g2, g3, K.k24, e4]
theorem f9_3 (J : CallF) (K : Kn4 J) (H : H9 J x0 x1 x2 y lot n c B U V cs ts L vv t0) : Tr tbl J c9_o3 (fun s h => s.get [false] = G B ∧ s.get [false, true] = G lot ∧ s.get [true, true] = G n ∧ s.get [false, false, false] = G c ∧ h = ⟨e0.get, 0, [.cells 0 3 [G x0, G x1, G x2]]⟩) .normal (fun s h => s.get [false] = G B ∧ s.get [false, true] = G lot ∧ s.get [true, true] = G n ∧ s.get [false, false, false] = G c ∧ s.get [true, false, false] = .slice 3 0 (lot.toNat + 1) vv ∧ s.get [false, true, false] = G 0 ∧ h = ⟨e0.get, 0, .cells 0 3 [G x0, G x1, G x2] :: .cells 0 1369 (tri 37 0) :: t0 :: .cells 2 vv cs :: ts⟩) := Tr.region fun s h hp => by
  obtain ⟨g0, g1, g2, g3, rfl⟩ := hp
  obtain ⟨⟨t1, t2, t3, c1, q26, q27⟩, e1, e2, e3, e4, e5, e6, e7, r1, r2, r3, r4⟩ := H
  simp (disch := first | omega | exact getEq rfl | exact getO0 | exact Nat.le_of_ble_eq_true rfl) [c9_o3, came_some, goI, List.getElem?_cons_zero, List.getElem?_cons_succ, kn, keep, frameOf, Heap.size, Heap.get, Eff.app, Heap.setOwn, putAt, AV.cells, fillA, loadA, takeA, mk, Eff.isAll, Eff.isNone, Eff.commutes, Eff.spares, okPair, apart, eqAgg, fits, LK.fits, allEq, aveq, eqk, mmA, beqT, wrapI, idxI, tdivI, tmodI, decT, decF, ibT, ibF, inT, inF, evScope_c, if_pos, if_neg, g0, g1, g2, g3, K.k35, e5, e6]
theorem f9_4 (J : CallF) (K : Kn4 J) (H : H9 J x0 x1 x2 y lot n c B U V cs ts L vv t0) : Tr tbl J c9_o4 (fun s h => s.get [false] = G B ∧ s.get [false, true] = G lot ∧ s.get [true, true] = G n ∧ s.get [false, false, false] = G c ∧ s.get [true, false, false] = .slice 3 0 (lot.toNat + 1) vv ∧ s.get [false, true, false] = G 0 ∧ h = ⟨e0.get, 0, .cells 0 3 [G x0, G x1, G x2] :: .cells 0 1369 (tri 37 0) :: t0 :: .cells 2 vv cs :: ts⟩) .normal (fun s h => s.get [false] = G B ∧ s.get [false, true] = G lot ∧ s.get [true, true] = G n ∧ s.get [false, false, false] = G c ∧ s.get [true, false, false] = .slice 3 0 (lot.toNat + 1) vv ∧ s.get [false, true, false] = G 0 ∧ s.get [true, true, false] = .ptr (L + 4) 0 2 ∧ s.get [false, false, true] = G 0 ∧ h = ⟨e0.get, 0, .cells 0 3 [G x0, G x1, G x2] :: .cells 0 1369 (tri 37 0) :: t0 :: .cells 2 vv cs :: (ts ++ [.cells 0 2 [G (U B), G (V B)]])⟩) := Tr.region fun s h hp => by
  obtain ⟨g0, g1, g2, g3, g4, g5, rfl⟩ := hp
  obtain ⟨⟨t1, t2, t3, c1, q26, q27⟩, e1, e2, e3, e4, e5, e6, e7, r1, r2, r3, r4⟩ := H
  simp (disch := first | omega | exact getEq rfl | exact getO0 | exact Nat.le_of_ble_eq_true rfl) [c9_o4, came_some, goI, List.getElem?_cons_zero, List.getElem?_cons_succ, kn, keep, frameOf, Heap.size, Heap.get, Eff.app, Heap.setOwn, putAt, AV.cells, fillA, loadA, takeA, mk, Eff.isAll, Eff.isNone, Eff.commutes, Eff.spares, okPair, apart, eqAgg, fits, LK.fits, allEq, aveq, eqk, mmA, beqT, wrapI, idxI, tdivI, tmodI, decT, decF, ibT, ibF, inT, inF, evScope_c, if_pos, if_neg, g0, g1, g2, g3, g4, g5, K.k23, e7, t1, t2, t3]
theorem f9_5 (J : CallF) (K : Kn4 J) (H : H9 J x0 x1 x2 y lot n c B U V cs ts L vv t0) : Tr tbl J (.seq c9_o5 (.cond (.s [true, false, true, true, true]) (.seq c9_o6 .ret) .skip)) (fun s h => s.get [false] = G B ∧ s.get [false, true] = G lot ∧ s.get [true, true] = G n ∧ s.get [false, false, false] = G c ∧ s.get [true, false, false] = .slice 3 0 (lot.toNat + 1) vv ∧ s.get [false, true, false] = G 0 ∧ s.get [true, true, false] = .ptr (L + 4) 0 2 ∧ s.get [false, false, true] = G 0 ∧ h = ⟨e0.get, 0, .cells 0 3 [G x0, G x1, G x2] :: .cells 0 1369 (tri 37 0) :: t0 :: .cells 2 vv cs :: (ts ++ [.cells 0 2 [G (U B), G (V B)]])⟩) .normal (fun s h => s.get [false] = G B ∧ s.get [false, true] = G lot ∧ s.get [true, true] = G n ∧ s.get [false, false, false] = G c ∧ s.get [true, false, false] = .slice 3 0 (lot.toNat + 1) vv ∧ s.get [true, true, false] = .ptr (L + 4) 0 2 ∧ h = ⟨e0.get, 0, .cells 0 3 [G x0, G x1, G x2] :: .cells 0 1369 (tri 37 0) :: t0 :: .cells 2 vv cs :: (ts ++ [.cells 0 2 [G (U B), G (V B)]])⟩) := Tr.region fun s h hp => by
  obtain ⟨g0, g1, g2, g3, g4, g5, g6, g7, rfl⟩ := hp
  obtain ⟨⟨t1, t2, t3, c1, q26, q27⟩, e1, e2, e3, e4, e5, e6, e7, r1, r2, r3, r4⟩ := H
  clear q26 q27 e1 e2 e3 e4 e5 e6 e7 t3
  have c2 := c1 B (by omega)
  simp (disch := first | omega | exact getEq rfl | exact getO0 | exact Nat.le_of_ble_eq_true rfl) [c9_o5, c9_o6, came_some, goI, List.getElem?_cons_zero, List.getElem?_cons_succ, kn, keep, frameOf, Heap.size, Heap.get, Eff.app, Heap.setOwn, putAt, AV.cells, fillA, loadA, takeA, mk, Eff.isAll, Eff.isNone, Eff.commutes, Eff.spares, okPair, apart, eqAgg, fits, LK.fits, allEq, aveq, eqk, mmA, beqT, wrapI, idxI, tdivI, tmodI, decT, decF, ibT, ibF, inT, inF, evScope_c, if_pos, if_neg, g0, g1, g2, g3, g4, g5, g6, g7, t2, c2]
abbrev HF (x0 x1 x2 : Int) (U V : Nat → Int) (B : Nat) (cs : List AV) (ts : List AObj) (vv : Nat) (t0 : AObj) : Heap := ⟨e0.get, 0, .cells 0 3 [G x0, G x1, G x2] :: .cells 0 1369 (tri 37 0) :: t0 :: .cells 2 vv cs :: (ts ++ [.cells 0 2 [G (U B), G (V B)]])⟩
abbrev P9 (x0 x1 x2 lot n c : Int) (U V : Nat → Int) (B : Nat) (cs : List AV) (ts : List AObj) (L vv : Nat) (t0 : AObj) (m : Nat) : SP := (fun s h => s.get [false] = G B ∧ s.get [false, true] = G lot ∧ s.get [true, true] = G n ∧ s.get [false, false, false] = G c ∧ s.get [true, false, false] = .slice 3 0 (lot.toNat + 1) vv ∧ s.get [true, true, false] = .ptr (L + 4) 0 2 ∧ s.get [true, false, true] = G m ∧ h = HF x0 x1 x2 U V B cs ts vv t0)
abbrev L9 : List Path := [[false], [false, true], [true, true], [false, false, false], [true, false, false], [true, true, false], [true, false, true]]

theorem falls_loop (J : CallF) (H : H9 J x0 x1 x2 y lot n c B U V cs ts L vv t0) : Tr tbl J c9_l0 (P9 x0 x1 x2 lot n c U V B cs ts L vv t0 0) (.exit 0) (fun s h => s.get [false] = G B ∧ s.get [false, true] = G lot ∧ s.get [true, true] = G n ∧ s.get [false, false, false] = G c ∧ s.get [true, true, false] = .ptr (L + 4) 0 2 ∧ h = HF x0 x1 x2 U V B cs ts vv t0) := by
  obtain ⟨⟨t1, t2, t3, c1, q26, q27⟩, e1, e2, e3, e4, e5, e6, e7, r1, r2, r3, r4⟩ := H
  refine Tr.rounds (P := P9 x0 x1 x2 lot n c U V B cs ts L vv t0) (M := lot.toNat + 1) (fun m hm => ?_) ?_ (by simp) 0 (by omega)
  · cases m with
    | zero =>
      have t : Tr tbl J ((.trim L9 c9_b0)) (fun s h => s.get [false] = G B ∧ s.get [false, true] = G lot ∧ s.get [true, true] = G n ∧ s.get [false, false, false] = G c ∧ s.get [true, false, false] = .slice 3 0 (lot.toNat + 1) vv ∧ s.get [true, true, false] = .ptr (L + 4) 0 2 ∧ s.get [true, false, true] = G ((0 : Nat) : Int) ∧ h = HF x0 x1 x2 U V B cs ts vv t0) .normal (fun s h => s.get [false] = G B ∧ s.get [false, true] = G lot ∧ s.get [true, true] = G n ∧ s.get [false, false, false] = G c ∧ s.get [true, false, false] = .slice 3 0 (lot.toNat + 1) vv ∧ s.get [true, true, false] = .ptr (L + 4) 0 2 ∧ s.get [true, false, true] = G ((0 + 1 : Nat) : Int) ∧ h = HF x0 x1 x2 U V B cs ts vv t0) := Tr.region fun s h hp => by
        obtain ⟨g0, g1, g2, g3, g4, g5, g6, rfl⟩ := hp
        have c10 := c1 0 (by omega)
        have q260 := fun h => q26 h 0 (by omega)
        simp only [Nat.zero_mul, List.drop_zero] at c10
        simp (disch := first | omega | exact getEq rfl | exact getO0 | exact Nat.le_of_ble_eq_true rfl) [c9_b0, c9_o8, c9_o9, c9_o11, came_some, goI, List.getElem?_cons_zero, List.getElem?_cons_succ, kn, keep, frameOf, Heap.size, Heap.get, Eff.app, Heap.setOwn, putAt, AV.cells, fillA, loadA, takeA, mk, Eff.isAll, Eff.isNone, Eff.commutes, Eff.spares, okPair, apart, eqAgg, fits, LK.fits, allEq, aveq, eqk, mmA, beqT, wrapI, idxI, tdivI, tmodI, decT, decF, ibT, ibF, inT, inF, evScope_c, if_pos, if_neg, g0, g1, g2, g3, g4, g5, g6, c10, q260]
      exact t
    | succ d =>
      have t : Tr tbl J ((.trim L9 c9_b0)) (fun s h => s.get [false] = G B ∧ s.get [false, true] = G lot ∧ s.get [true, true] = G n ∧ s.get [false, false, false] = G c ∧ s.get [true, false, false] = .slice 3 0 (lot.toNat + 1) vv ∧ s.get [true, true, false] = .ptr (L + 4) 0 2 ∧ s.get [true, false, true] = G ((d + 1 : Nat) : Int) ∧ h = HF x0 x1 x2 U V B cs ts vv t0) .normal (fun s h => s.get [false] = G B ∧ s.get [false, true] = G lot ∧ s.get [true, true] = G n ∧ s.get [false, false, false] = G c ∧ s.get [true, false, false] = .slice 3 0 (lot.toNat + 1) vv ∧ s.get [true, true, false] = .ptr (L + 4) 0 2 ∧ s.get [true, false, true] = G ((d + 1 + 1 : Nat) : Int) ∧ h = HF x0 x1 x2 U V B cs ts vv t0) := Tr.region fun s h hp => by
        obtain ⟨g0, g1, g2, g3, g4, g5, g6, rfl⟩ := hp
        have q1 := fun h => q26 h (d + 1) (by omega)
        have q2 := fun h => q27 h d (by omega)
        have q3 := c1 d (by omega)
        have q4 := c1 (d + 1) (by omega)
        have q5 : ((d : Int) + 1).toNat = d + 1 := by omega
        have q6 : ((d : Int) + 1 - 1).toNat = d := by omega
        simp (disch := first | omega | exact getEq rfl | exact getO0 | exact Nat.le_of_ble_eq_true rfl) [c9_b0, c9_o8, c9_o9, c9_o11, came_some, goI, List.getElem?_cons_zero, List.getElem?_cons_succ, kn, keep, frameOf, Heap.size, Heap.get, Eff.app, Heap.setOwn, putAt, AV.cells, fillA, loadA, takeA, mk, Eff.isAll, Eff.isNone, Eff.commutes, Eff.spares, okPair, apart, eqAgg, fits, LK.fits, allEq, aveq, eqk, mmA, beqT, wrapI, idxI, tdivI, tmodI, decT, decF, ibT, ibF, inT, inF, evScope_c, if_pos, if_neg, g0, g1, g2, g3, g4, g5, g6, q1, q2, q3, q4, q5, q6]
      exact t
  ·
    have t : Tr tbl J ((.trim L9 c9_b0)) (fun s h => s.get [false] = G B ∧ s.get [false, true] = G lot ∧ s.get [true, true] = G n ∧ s.get [false, false, false] = G c ∧ s.get [true, false, false] = .slice 3 0 (lot.toNat + 1) vv ∧ s.get [true, true, false] = .ptr (L + 4) 0 2 ∧ s.get [true, false, true] = G ((lot.toNat + 1 : Nat) : Int) ∧ h = HF x0 x1 x2 U V B cs ts vv t0) (.exit 0) (fun s h => s.get [false] = G B ∧ s.get [false, true] = G lot ∧ s.get [true, true] = G n ∧ s.get [false, false, false] = G c ∧ s.get [true, true, false] = .ptr (L + 4) 0 2 ∧ h = HF x0 x1 x2 U V B cs ts vv t0) := Tr.region fun s h hp => by
      obtain ⟨g0, g1, g2, g3, g4, g5, g6, rfl⟩ := hp
      simp (disch := first | omega | exact getEq rfl | exact getO0 | exact Nat.le_of_ble_eq_true rfl) [c9_b0, c9_o8, came_some, goI, List.getElem?_cons_zero, List.getElem?_cons_succ, kn, keep, frameOf, Heap.size, Heap.get, Eff.app, Heap.setOwn, putAt, AV.cells, fillA, loadA, takeA, mk, Eff.isAll, Eff.isNone, Eff.commutes, Eff.spares, okPair, apart, eqAgg, fits, LK.fits, allEq, aveq, eqk, mmA, beqT, wrapI, idxI, tdivI, tmodI, decT, decF, ibT, ibF, inT, inF, evScope_c, if_pos, if_neg, g0, g1, g2, g3, g4, g5, g6]
    exact t

theorem falls_more (J : CallF) (K : Kn4 J) (H : H9 J x0 x1 x2 y lot n c B U V cs ts L vv t0) {u v : Int} (h1 : c + 1 < n → fr (acc lot B n ((c + 1).toNat + 1)) (ofZ lot B) = .agg [G u, G v] ∧ vOk u v ∧ decide (u * V B < U B * v) = false ∧ vOk (U B) (V B)) :
    Tr tbl J (.seq c9_o12 (.cond (.s [false, false, true, true, true, false]) (.seq c9_o13 (.seq c9_o14 (.cond (.s [true, false, false, false, true, true]) (.seq c9_o15 .ret) .skip))) .skip)) (fun s h => s.get [false] = G B ∧ s.get [false, true] = G lot ∧ s.get [true, true] = G n ∧ s.get [false, false, false] = G c ∧ s.get [true, true, false] = .ptr (L + 4) 0 2 ∧ h = HF x0 x1 x2 U V B cs ts vv t0) .normal (fun s h => True) := by
  obtain ⟨⟨t1, t2, t3, c1, q26, q27⟩, e1, e2, e3, e4, e5, e6, e7, r1, r2, r3, r4⟩ := H
  by_cases hc : c + 1 < n
  · obtain ⟨h2, h3, h4, h5⟩ := h1 hc
    have h3' := h3
    obtain ⟨p1, p2, p3⟩ := h3'
    obtain ⟨p4, p5, p6⟩ := h5
    have q := fun h => K.k26 h u v h3
    have t : Tr tbl J ((.seq c9_o12 (.cond (.s [false, false, true, true, true, false]) (.seq c9_o13 (.seq c9_o14 (.cond (.s [true, false, false, false, true, true]) (.seq c9_o15 .ret) .skip))) .skip))) (fun s h => s.get [false] = G B ∧ s.get [false, true] = G lot ∧ s.get [true, true] = G n ∧ s.get [false, false, false] = G c ∧ s.get [true, true, false] = .ptr (L + 4) 0 2 ∧ h = HF x0 x1 x2 U V B cs ts vv t0) .normal (fun s h => True) := Tr.region fun s h hp => by
      obtain ⟨g0, g1, g2, g3, g4, rfl⟩ := hp
      have t4 : ∀ X Y : AObj, (ts ++ [X, Y])[L]? = some X := fun X Y => by rw [List.getElem?_append_right (by omega), t1, Nat.sub_self]; rfl
      have t5 : ∀ X Y : AObj, (ts ++ [X, Y])[L + 1]? = some Y := fun X Y => by rw [List.getElem?_append_right (by omega), t1, Nat.add_sub_cancel_left]; rfl
      have t6 : ∀ X Y Z : AObj, (ts ++ [X, Y]).set (L + 1) Z = ts ++ [X, Z] := fun X Y Z => by rw [List.set_append_right _ _ (by omega), t1, Nat.add_sub_cancel_left]; rfl
      simp (disch := first | omega | exact getEq rfl | exact getO0 | exact Nat.le_of_ble_eq_true rfl) [c9_o12, c9_o13, c9_o14, came_some, goI, List.getElem?_cons_zero, List.getElem?_cons_succ, kn, keep, frameOf, Heap.size, Heap.get, Eff.app, Heap.setOwn, putAt, AV.cells, fillA, loadA, takeA, mk, Eff.isAll, Eff.isNone, Eff.commutes, Eff.spares, okPair, apart, eqAgg, fits, LK.fits, allEq, aveq, eqk, mmA, beqT, wrapI, idxI, tdivI, tmodI, decT, decF, ibT, ibF, inT, inF, evScope_c, if_pos, if_neg, g0, g1, g2, g3, g4, K.k23, K.k27, h2, h4, q, t1, t2, t4, t5, t6]
    exact t
  ·
    have t : Tr tbl J ((.seq c9_o12 (.cond (.s [false, false, true, true, true, false]) (.seq c9_o13 (.seq c9_o14 (.cond (.s [true, false, false, false, true, true]) (.seq c9_o15 .ret) .skip))) .skip))) (fun s h => s.get [false] = G B ∧ s.get [false, true] = G lot ∧ s.get [true, true] = G n ∧ s.get [false, false, false] = G c ∧ s.get [true, true, false] = .ptr (L + 4) 0 2 ∧ h = HF x0 x1 x2 U V B cs ts vv t0) .normal (fun s h => True) := Tr.region fun s h hp => by
      obtain ⟨g0, g1, g2, g3, g4, rfl⟩ := hp
      simp (disch := first | omega | exact getEq rfl | exact getO0 | exact Nat.le_of_ble_eq_true rfl) [c9_o12, came_some, goI, List.getElem?_cons_zero, List.getElem?_cons_succ, kn, keep, frameOf, Heap.size, Heap.get, Eff.app, Heap.setOwn, putAt, AV.cells, fillA, loadA, takeA, mk, Eff.isAll, Eff.isNone, Eff.commutes, Eff.spares, okPair, apart, eqAgg, fits, LK.fits, allEq, aveq, eqk, mmA, beqT, wrapI, idxI, tdivI, tmodI, decT, decF, ibT, ibF, inT, inF, evScope_c, if_pos, if_neg, g0, g1, g2, g3, g4]
    exact t

theorem falls_all (J : CallF) (K : Kn4 J) (hJ : ∀ a h, J 9 a h = none) (H : H9 J x0 x1 x2 y lot n c B U V cs ts L vv t0) {u v : Int} (h1 : c + 1 < n → fr (acc lot B n ((c + 1).toNat + 1)) (ofZ lot B) = .agg [G u, G v] ∧ vOk u v ∧ decide (u * V B < U B * v) = false ∧ vOk (U B) (V B)) :
    CallsTo tbl J 9 [.agg [G x0, G x1, G x2], G y] e0 (.bool true, [], false) := by
  refine Tr.fnv (cf := c9) (e := .ret) (s := T.set (T.set .leaf [] (.agg [G x0, G x1, G x2])) [false] (G y)) (by decide) rfl (hJ _ _) rfl rfl rfl (by simp) ?_
  refine Tr.post (Q := (fun s h => s.get [true, false] = .bool true)) (fun s h q => by simp [c9, q]) ?_
  have t7 : Tr tbl J (c9_o7) (fun s h => s.get [false] = G B ∧ s.get [false, true] = G lot ∧ s.get [true, true] = G n ∧ s.get [false, false, false] = G c ∧ s.get [true, false, false] = .slice 3 0 (lot.toNat + 1) vv ∧ s.get [true, true, false] = .ptr (L + 4) 0 2 ∧ h = HF x0 x1 x2 U V B cs ts vv t0) .normal (fun s h => s.get [false] = G B ∧ s.get [false, true] = G lot ∧ s.get [true, true] = G n ∧ s.get [false, false, false] = G c ∧ s.get [true, false, false] = .slice 3 0 (lot.toNat + 1) vv ∧ s.get [true, true, false] = .ptr (L + 4) 0 2 ∧ s.get [true, false, true] = G ((0 : Nat) : Int) ∧ h = HF x0 x1 x2 U V B cs ts vv t0) := Tr.region fun s h hp => by
    obtain ⟨g0, g1, g2, g3, g4, g5, rfl⟩ := hp
    simp (disch := first | omega | exact getEq rfl | exact getO0 | exact Nat.le_of_ble_eq_true rfl) [c9_o7, came_some, goI, List.getElem?_cons_zero, List.getElem?_cons_succ, kn, keep, frameOf, Heap.size, Heap.get, Eff.app, Heap.setOwn, putAt, AV.cells, fillA, loadA, takeA, mk, Eff.isAll, Eff.isNone, Eff.commutes, Eff.spares, okPair, apart, eqAgg, fits, LK.fits, allEq, aveq, eqk, mmA, beqT, wrapI, idxI, tdivI, tmodI, decT, decF, ibT, ibF, inT, inF, evScope_c, if_pos, if_neg, g0, g1, g2, g3, g4, g5]
  have t8 : Tr tbl J ((.seq c9_o16 .ret)) (fun s h => True) .ret (fun s h => s.get [true, false] = .bool true) := Tr.region fun s h hp => by
    simp (disch := first | omega | exact getEq rfl | exact getO0 | exact Nat.le_of_ble_eq_true rfl) [c9_o16, came_some, goI, List.getElem?_cons_zero, List.getElem?_cons_succ, kn, keep, frameOf, Heap.size, Heap.get, Eff.app, Heap.setOwn, putAt, AV.cells, fillA, loadA, takeA, mk, Eff.isAll, Eff.isNone, Eff.commutes, Eff.spares, okPair, apart, eqAgg, fits, LK.fits, allEq, aveq, eqk, mmA, beqT, wrapI, idxI, tdivI, tmodI, decT, decF, ibT, ibF, inT, inF, evScope_c, if_pos, if_neg, K.k20]
  exact Tr.seq (f9_0 J K H) (Tr.seq (f9_1 J K H) (Tr.seq (f9_2 J K H) (Tr.seq (f9_3 J K H) (Tr.seq (f9_4 J K H) (Tr.seq (f9_5 J K H) (Tr.seq (Tr.seq t7 (Tr.block (falls_loop J H))) (Tr.seq (falls_more J K H h1) t8)))))))
end

theorem cross2 {g g' x y x' y' u v u' v' : Int} (hg : 0 < g) (hg' : 0 < g') (e1 : x = g * u) (e2 : y = g * v) (e3 : x' = g' * u') (e4 : y' = g' * v') : u * v' < u' * v ↔ x * y' < x' * y :=
  (cross_l hg e1 e2).trans (cross_r hg' e3 e4)

/-- The chances of a plan, as what they are made of. -/
theorem cUV {lot n c : Int} (h1 : 1 ≤ lot ∧ lot ≤ 36) (h3 : 1 ≤ n ∧ n ≤ lot) (d : Nat) (h2 : (d : Int) ≤ lot) : ∃ g : Int, 0 < g ∧ (acc lot d n (c.toNat + 1) : Int) = g * cU lot n c d ∧ (ofZ lot d : Int) = g * cV lot n c d ∧ vOk (cU lot n c d) (cV lot n c d) := by
  obtain ⟨g, u, v, a1, a2, a3, a4, a5⟩ := fr_acc (lot := lot) (bad := (d : Int)) (n := n) (c := c) h1 ⟨by omega, h2⟩ h3
  rw [fr_c] at a4
  simp only [AV.agg.injEq, List.cons.injEq, AV.int.injEq, and_true, true_and] at a4
  obtain ⟨rfl, rfl⟩ := a4
  exact ⟨g, a1, a2, a3, a5⟩

theorem lh_ok (J : CallF) (K : Kn3 J) {lot n c : Int} (h1 : 1 ≤ lot ∧ lot ≤ 36) (h3 : 1 ≤ n ∧ n ≤ lot) (h4 : 0 ≤ c ∧ c < n) (B : Nat) :
    LH J lot n c B (cU lot n c) (cV lot n c) (frs (cU lot n c) (cV lot n c) (lot.toNat + 1)) (tmps (cU lot n c) (cV lot n c) lot.toNat) lot.toNat (2 * (lot.toNat + 1)) := by
  have hl := tmps_len (cU lot n c) (cV lot n c) lot.toNat
  refine ⟨hl, fun X => ?_, fun X Y => ?_, fun d hd => frs_at _ _ _ d hd, fun h d hd => ?_, fun h d hd => ?_⟩
  · rw [List.getElem?_append_right (by omega), hl, Nat.sub_self]; rfl
  · rw [List.set_append_right _ _ (by omega), hl, Nat.sub_self]; rfl
  · obtain ⟨g, a1, a2, a3, a4⟩ := cUV h1 h3 (c := c) d (by omega)
    exact K.k26 h _ _ a4
  · obtain ⟨g, a1, a2, a3, a4⟩ := cUV h1 h3 (c := c) d (by omega)
    obtain ⟨g', b1, b2, b3, b4⟩ := cUV h1 h3 (c := c) (d + 1) (by omega)
    obtain ⟨⟨p1, p2⟩, ⟨p3, p4⟩, _⟩ := a4
    obtain ⟨⟨p5, p6⟩, ⟨p7, p8⟩, _⟩ := b4
    have hf := acc_falls (lot := lot) (b := (d : Int)) (n := n) (by omega) h3.2 (by omega) (by omega) (c.toNat + 1)
    rw [K.k27 h _ _ _ _ p1 (by omega) (by omega) (by omega) p5 (by omega) (by omega) (by omega)]
    rw [decide_eq_false]
    rw [cross2 a1 b1 a2 a3 b2 b3]
    simp only [Int.natCast_add, Int.natCast_one]
    omega

theorem falls_law (J : CallF) (K : Kn4 J) (hJ : ∀ a h, J 9 a h = none) (x0 x1 x2 y : Int) : CallsTo tbl J 9 [.agg [G x0, G x1, G x2], G y] e0 (.bool true, [], false) := by
  have hl := lotZ_in x0
  have hn := nZ_in x0 x1
  have hc := cZ_in x0 x1 x2
  generalize e1 : lotZ x0 = lot at *
  generalize e2 : nZ x0 x1 = n at *
  generalize e3 : cZ x0 x1 x2 = c at *
  have m1 := mdZ_lo y (show 0 < lot + 1 by omega)
  have m2 := mdZ_hi y (show 0 < lot + 1 by omega)
  obtain ⟨B, e4⟩ : ∃ B : Nat, mdZ y (lot + 1) = B := ⟨(mdZ y (lot + 1)).toNat, by omega⟩
  have H : H9 J x0 x1 x2 y lot n c B (cU lot n c) (cV lot n c) (frs (cU lot n c) (cV lot n c) (lot.toNat + 1)) (tmps (cU lot n c) (cV lot n c) lot.toNat) lot.toNat (2 * (lot.toNat + 1)) (.cells 2 2 [G (cU lot n c 0), G (cV lot n c 0)]) :=
    ⟨lh_ok J K.toKn3 hl hn hc B, e1, e2, e3, e4, rfl, rfl, fr_c lot n c B, hl, hn, hc, by omega⟩
  obtain ⟨g, a1, a2, a3, a4⟩ := cUV hl hn (c := c) B (by omega)
  by_cases h : c + 1 < n
  · obtain ⟨g', u, v, b1, b2, b3, b4, b5⟩ := fr_acc (lot := lot) (bad := (B : Int)) (n := n) (c := c + 1) hl ⟨by omega, by omega⟩ hn
    refine falls_all J K hJ H (u := u) (v := v) (fun _ => ⟨b4, b5, ?_, a4⟩)
    rw [decide_eq_false]
    rw [cross2 b1 a1 b2 b3 a2 a3]
    have hu := acc_up lot B n (c.toNat + 1)
    rw [show (c + 1).toNat + 1 = c.toNat + 1 + 1 by omega]
    have := Nat.mul_le_mul_right (ofZ lot B) hu
    rw [← Int.natCast_mul, ← Int.natCast_mul]
    omega
  · exact falls_all J K hJ H (u := 0) (v := 0) (fun h' => absurd h' h)

theorem falls_ok (x0 x1 x2 y : Int) : CallsTo tbl I24 9 [.agg [G x0, G x1, G x2], G y] e0 (.bool true, [], false) := falls_law I24 kn24'' (fun _ _ => rfl) x0 x1 x2 y

end Go.Proofs.Ytlkgpcfhpeilhaa.Ev
