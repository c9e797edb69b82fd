/-
  SampleFirst answers true at any ints, as the evaluator runs it. No condition.
-/
import Derived.Test.YtlkgpcfhpeilhaaSPlan
set_option linter.unusedVariables false
set_option linter.unusedSimpArgs false
namespace Go.Proofs.Ytlkgpcfhpeilhaa.Ev
open Go Go.AEv

attribute [local simp] evFunc initS evOps_c evTrim_c evSkip_c evExit_c evRet_c evSeq_c evCond_c evBlock_c evDraw_c runOps_n runOps_c exec_n exec_g pure1_c act AOpd.ev T.get T.set T.put evBin evUn forceT_eq forceV_eq forceL_eq evRess evRes one keep runFP_n runFP_c app_none AV.flats AV.flat

/-! ### valid -/
def vOk (u v : Int) : Prop := (0 ≤ u ∧ u ≤ 1099511627776) ∧ (1 ≤ v ∧ v ≤ 1099511627776) ∧ Nat.gcd u.toNat v.toNat = 1
instance (a b : Int) : Decidable (vOk a b) := by unfold vOk; infer_instance
def spec26 : SpecV
  | [.agg [.int .i64 u, .int .i64 v]] => if vOk u v then some (.bool true) else none
  | _ => none

theorem c26_ok (J : CallF) (K : Kn J) (hJ : ∀ a h, J 26 a h = none) (u v : Int) (h1 : vOk u v) : CallsTo tbl J 26 [.agg [G u, G v]] e0 (.bool true, [], false) := by
  obtain ⟨⟨a1, a2⟩, ⟨b1, b2⟩, g⟩ := h1
  have e : fr u v = .agg [G u, G v] := by unfold fr; rw [g]; simp
  refine CallsTo.plain (cf := c26) (h' := ⟨e0.get, 0, [.cells 0 2 [G u, G v]]⟩) (by decide) rfl (hJ _ _) rfl rfl ?_
  rw [show frameOf e0 = ⟨e0.get, 0, []⟩ from rfl]
  simp (disch := first | omega | exact getEq rfl) [c26, c26_o0, c26_o1, came_some, goI, List.getElem?_cons_zero, List.getElem?_cons_succ, kn, keep, frameOf, Heap.size, Heap.get, Eff.app, Heap.setOwn, putAt, AV.cells, fillA, loadA, takeA, mk, Eff.isAll, Eff.isNone, Eff.commutes, Eff.spares, okPair, apart, eqAgg, fits, LK.fits, allEq, aveq, eqk, mmA, beqT, wrapI, idxI, tdivI, tmodI, decT, decF, ibT, ibF, inT, inF, evScope_c, if_pos, if_neg, K.k25, e]

noncomputable def I23 : CallF := addV I22 26 spec26
theorem s23 : Sound Go.Proofs.Try.prog I23 := Sound.addV follows ok s22 (by decide) (fun args v h => by
  unfold spec26 at h
  split at h
  · split at h
    · rename_i hh
      simp only [Option.some.injEq] at h; subst h; exact c26_ok I22 kn22 (fun _ _ => rfl) _ _ hh
    · cases h
  · cases h)
theorem g26 (h : Heap) (u v : Int) (hv : vOk u v) : I23 26 [.agg [G u, G v]] h = some (.bool true, [], false) := by simp [I23, AEv.addV, spec26, hv]
theorem kn23 : Kn I23 := ⟨f67, f68, f59, f52, f60, f54, f58, f57, f56, f25, f18, f20, f30, f29, f31, f24, f22, f28, f23, f55, f27, f55r⟩
theorem kn23' : Kn2 I23 := ⟨⟨kn23, g53, g19⟩, g17, g21⟩
structure Kn3 (J : CallF) : Prop extends Kn2 J where
  k26 : ∀ (h : Heap) (u v : Int) (hv : vOk u v), J 26 [.agg [G u, G v]] h = some (.bool true, [], false)
theorem kn23'' : Kn3 I23 := ⟨kn23', g26⟩

/-! ### The law -/
structure H5 (x0 x1 x2 y0 y1 z0 z1 z2 z3 lot good bad den over t1 t3 l1 l2 m1 m2 k d n c e a1 a2 b1 b2 : Int) (pa pb : Bool) : Prop where
  e1 : 1 + mdZ x0 36 = lot
  e2 : mdZ x1 (lot + 1) = good
  e3 : mdZ x2 (lot + 1) = bad
  e4 : 1 + mdZ z0 1000 = den
  e5 : 1 + mdZ z2 1000 = over
  e6 : mdZ z1 (den + 1) = t1
  e7 : mdZ z3 (over + 1) = t3
  e8 : fr t1 den = .agg [G l1, G l2]
  e9 : fr t3 over = .agg [G m1, G m2]
  e10 : 1 + mdZ y0 lot = k
  e11 : mdZ y1 k = d
  e12 : planV lot good bad l1 l2 m1 m2 = .tup [G n, G c, G e]
  e13 : fr (acc lot good k (d.toNat + 1)) (ofZ lot good) = .agg [G a1, G a2]
  e14 : fr (acc lot bad k (d.toNat + 1)) (ofZ lot bad) = .agg [G b1, G b2]
  e15 : decide (a1 * l2 < l1 * a2) = pa
  e16 : decide (m1 * b2 < b1 * m2) = pb
  r1 : 1 ≤ lot ∧ lot ≤ 36
  r2 : 0 ≤ good ∧ good ≤ lot
  r3 : 0 ≤ bad ∧ bad ≤ lot
  r4 : 1 ≤ den ∧ den ≤ 1000
  r5 : 1 ≤ over ∧ over ≤ 1000
  r6 : 0 ≤ t1 ∧ t1 ≤ den
  r7 : 0 ≤ t3 ∧ t3 ≤ over
  r8 : 0 ≤ l1 ∧ l1 ≤ 1000 ∧ 1 ≤ l2 ∧ l2 ≤ 1000
  r9 : 0 ≤ m1 ∧ m1 ≤ 1000 ∧ 1 ≤ m2 ∧ m2 ≤ 1000
  r10 : 1 ≤ k ∧ k ≤ lot
  r11 : 0 ≤ d ∧ d < k
  r13 : vOk a1 a2
  r14 : vOk b1 b2

section
variable {x0 x1 x2 y0 y1 z0 z1 z2 z3 lot good bad den over t1 t3 l1 l2 m1 m2 k d n c e a1 a2 b1 b2 : Int} {pa pb : Bool}
theorem f5_0 (J : CallF) (K : Kn3 J) (H : H5 x0 x1 x2 y0 y1 z0 z1 z2 z3 lot good bad den over t1 t3 l1 l2 m1 m2 k d n c e a1 a2 b1 b2 pa pb) : Tr tbl J c5_o0 (fun s h => s = T.set (T.set (T.set .leaf [] (.agg [G x0, G x1, G x2])) [false] (.agg [G y0, G y1])) [true] (.agg [G z0, G z1, G z2, G z3]) ∧ h = ⟨e0.get, 0, []⟩) .normal (fun s h => s.get [false, false] = .ptr 0 0 3 ∧ s.get [true, false] = .ptr 1 0 2 ∧ s.get [false, true] = .ptr 2 0 4 ∧ h = ⟨e0.get, 0, [.cells 0 3 [G x0, G x1, G x2], .cells 0 2 [G y0, G y1], .cells 0 4 [G z0, G z1, G z2, G z3]]⟩) := Tr.region fun s h hp => by
  obtain ⟨rfl, rfl⟩ := hp
  obtain ⟨e1, e2, e3, e4, e5, e6, e7, e8, e9, e10, e11, e12, e13, e14, e15, e16, r1, r2, r3, r4, r5, r6, r7, r8, r9, r10, r11, r13, r14⟩ := H
  have r13' := r13
  have r14' := r14
  obtain ⟨q1, q2, q3⟩ := r13
  obtain ⟨q4, q5, q6⟩ := r14
  simp (disch := first | omega | exact getEq rfl | exact getO0 | exact Nat.le_of_ble_eq_true rfl) [c5_o0, came_some, goI, List.getElem?_cons_zero, List.getElem?_cons_succ, kn, keep, frameOf, Heap.size, Heap.get, Eff.app, Heap.setOwn, putAt, AV.cells, fillA, loadA, takeA, mk, Eff.isAll, Eff.isNone, Eff.commutes, Eff.spares, okPair, apart, eqAgg, fits, LK.fits, allEq, aveq, eqk, mmA, beqT, wrapI, idxI, tdivI, tmodI, decT, decF, ibT, ibF, inT, inF, evScope_c, if_pos, if_neg]
theorem f5_1 (J : CallF) (K : Kn3 J) (H : H5 x0 x1 x2 y0 y1 z0 z1 z2 z3 lot good bad den over t1 t3 l1 l2 m1 m2 k d n c e a1 a2 b1 b2 pa pb) : Tr tbl J c5_o1 (fun s h => s.get [false, false] = .ptr 0 0 3 ∧ s.get [true, false] = .ptr 1 0 2 ∧ s.get [false, true] = .ptr 2 0 4 ∧ h = ⟨e0.get, 0, [.cells 0 3 [G x0, G x1, G x2], .cells 0 2 [G y0, G y1], .cells 0 4 [G z0, G z1, G z2, G z3]]⟩) .normal (fun s h => s.get [false, false] = .ptr 0 0 3 ∧ s.get [true, false] = .ptr 1 0 2 ∧ s.get [false, true] = .ptr 2 0 4 ∧ s.get [false, false, false] = G lot ∧ h = ⟨e0.get, 0, [.cells 0 3 [G x0, G x1, G x2], .cells 0 2 [G y0, G y1], .cells 0 4 [G z0, G z1, G z2, G z3]]⟩) := Tr.region fun s h hp => by
  obtain ⟨g0, g1, g2, rfl⟩ := hp
  obtain ⟨e1, e2, e3, e4, e5, e6, e7, e8, e9, e10, e11, e12, e13, e14, e15, e16, r1, r2, r3, r4, r5, r6, r7, r8, r9, r10, r11, r13, r14⟩ := H
  have r13' := r13
  have r14' := r14
  obtain ⟨q1, q2, q3⟩ := r13
  obtain ⟨q4, q5, q6⟩ := r14
  have q24 := mdZ_lo x0 (show (0 : Int) < 36 by decide)
  simp (disch := first | omega | exact getEq rfl | exact getO0 | exact Nat.le_of_ble_eq_true rfl) [c5_o1, came_some, goI, List.getElem?_cons_zero, List.getElem?_cons_succ, kn, keep, frameOf, Heap.size, Heap.get, Eff.app, Heap.setOwn, putAt, AV.cells, fillA, loadA, takeA, mk, Eff.isAll, Eff.isNone, Eff.commutes, Eff.spares, okPair, apart, eqAgg, fits, LK.fits, allEq, aveq, eqk, mmA, beqT, wrapI, idxI, tdivI, tmodI, decT, decF, ibT, ibF, inT, inF, evScope_c, if_pos, if_neg, g0, g1, g2, K.k24, e1]
theorem f5_2 (J : CallF) (K : Kn3 J) (H : H5 x0 x1 x2 y0 y1 z0 z1 z2 z3 lot good bad den over t1 t3 l1 l2 m1 m2 k d n c e a1 a2 b1 b2 pa pb) : Tr tbl J c5_o2 (fun s h => s.get [false, false] = .ptr 0 0 3 ∧ s.get [true, false] = .ptr 1 0 2 ∧ s.get [false, true] = .ptr 2 0 4 ∧ s.get [false, false, false] = G lot ∧ h = ⟨e0.get, 0, [.cells 0 3 [G x0, G x1, G x2], .cells 0 2 [G y0, G y1], .cells 0 4 [G z0, G z1, G z2, G z3]]⟩) .normal (fun s h => s.get [true, false] = .ptr 1 0 2 ∧ s.get [false, true] = .ptr 2 0 4 ∧ s.get [false, false, false] = G lot ∧ s.get [true, false, false] = G good ∧ s.get [false, true, false] = G bad ∧ h = ⟨e0.get, 0, [.cells 0 3 [G x0, G x1, G x2], .cells 0 2 [G y0, G y1], .cells 0 4 [G z0, G z1, G z2, G z3]]⟩) := Tr.region fun s h hp => by
  obtain ⟨g0, g1, g2, g3, rfl⟩ := hp
  obtain ⟨e1, e2, e3, e4, e5, e6, e7, e8, e9, e10, e11, e12, e13, e14, e15, e16, r1, r2, r3, r4, r5, r6, r7, r8, r9, r10, r11, r13, r14⟩ := H
  have r13' := r13
  have r14' := r14
  obtain ⟨q1, q2, q3⟩ := r13
  obtain ⟨q4, q5, q6⟩ := r14
  simp (disch := first | omega | exact getEq rfl | exact getO0 | exact Nat.le_of_ble_eq_true rfl) [c5_o2, came_some, goI, List.getElem?_cons_zero, List.getElem?_cons_succ, kn, keep, frameOf, Heap.size, Heap.get, Eff.app, Heap.setOwn, putAt, AV.cells, fillA, loadA, takeA, mk, Eff.isAll, Eff.isNone, Eff.commutes, Eff.spares, okPair, apart, eqAgg, fits, LK.fits, allEq, aveq, eqk, mmA, beqT, wrapI, idxI, tdivI, tmodI, decT, decF, ibT, ibF, inT, inF, evScope_c, if_pos, if_neg, g0, g1, g2, g3, K.k24, e2, e3]
theorem f5_3 (J : CallF) (K : Kn3 J) (H : H5 x0 x1 x2 y0 y1 z0 z1 z2 z3 lot good bad den over t1 t3 l1 l2 m1 m2 k d n c e a1 a2 b1 b2 pa pb) : Tr tbl J c5_o3 (fun s h => s.get [true, false] = .ptr 1 0 2 ∧ s.get [false, true] = .ptr 2 0 4 ∧ s.get [false, false, false] = G lot ∧ s.get [true, false, false] = G good ∧ s.get [false, true, false] = G bad ∧ h = ⟨e0.get, 0, [.cells 0 3 [G x0, G x1, G x2], .cells 0 2 [G y0, G y1], .cells 0 4 [G z0, G z1, G z2, G z3]]⟩) .normal (fun s h => s.get [true, false] = .ptr 1 0 2 ∧ s.get [false, true] = .ptr 2 0 4 ∧ s.get [false, false, false] = G lot ∧ s.get [true, false, false] = G good ∧ s.get [false, true, false] = G bad ∧ s.get [true, true, false] = G den ∧ s.get [false, false, true] = G over ∧ h = ⟨e0.get, 0, [.cells 0 3 [G x0, G x1, G x2], .cells 0 2 [G y0, G y1], .cells 0 4 [G z0, G z1, G z2, G z3]]⟩) := Tr.region fun s h hp => by
  obtain ⟨g0, g1, g2, g3, g4, rfl⟩ := hp
  obtain ⟨e1, e2, e3, e4, e5, e6, e7, e8, e9, e10, e11, e12, e13, e14, e15, e16, r1, r2, r3, r4, r5, r6, r7, r8, r9, r10, r11, r13, r14⟩ := H
  have r13' := r13
  have r14' := r14
  obtain ⟨q1, q2, q3⟩ := r13
  obtain ⟨q4, q5, q6⟩ := r14
  have q24 := mdZ_lo z0 (show (0 : Int) < 1000 by decide)
  have q25 := mdZ_lo z2 (show (0 : Int) < 1000 by decide)
  simp (disch := first | omega | exact getEq rfl | exact getO0 | exact Nat.le_of_ble_eq_true rfl) [c5_o3, came_some, goI, List.getElem?_cons_zero, List.getElem?_cons_succ, kn, keep, frameOf, Heap.size, Heap.get, Eff.app, Heap.setOwn, putAt, AV.cells, fillA, loadA, takeA, mk, Eff.isAll, Eff.isNone, Eff.commutes, Eff.spares, okPair, apart, eqAgg, fits, LK.fits, allEq, aveq, eqk, mmA, beqT, wrapI, idxI, tdivI, tmodI, decT, decF, ibT, ibF, inT, inF, evScope_c, if_pos, if_neg, g0, g1, g2, g3, g4, K.k24, e4, e5]
theorem f5_4 (J : CallF) (K : Kn3 J) (H : H5 x0 x1 x2 y0 y1 z0 z1 z2 z3 lot good bad den over t1 t3 l1 l2 m1 m2 k d n c e a1 a2 b1 b2 pa pb) : Tr tbl J c5_o4 (fun s h => s.get [true, false] = .ptr 1 0 2 ∧ s.get [false, true] = .ptr 2 0 4 ∧ s.get [false, false, false] = G lot ∧ s.get [true, false, false] = G good ∧ s.get [false, true, false] = G bad ∧ s.get [true, true, false] = G den ∧ s.get [false, false, true] = G over ∧ h = ⟨e0.get, 0, [.cells 0 3 [G x0, G x1, G x2], .cells 0 2 [G y0, G y1], .cells 0 4 [G z0, G z1, G z2, G z3]]⟩) .normal (fun s h => s.get [true, false] = .ptr 1 0 2 ∧ s.get [false, false, false] = G lot ∧ s.get [true, false, false] = G good ∧ s.get [false, true, false] = G bad ∧ s.get [true, false, true] = .ptr 3 0 2 ∧ s.get [false, true, true] = .ptr 4 0 2 ∧ h = ⟨e0.get, 0, [.cells 0 3 [G x0, G x1, G x2], .cells 0 2 [G y0, G y1], .cells 0 4 [G z0, G z1, G z2, G z3], .cells 0 2 [G l1, G l2], .cells 0 2 [G m1, G m2]]⟩) := Tr.region fun s h hp => by
  obtain ⟨g0, g1, g2, g3, g4, g5, g6, rfl⟩ := hp
  obtain ⟨e1, e2, e3, e4, e5, e6, e7, e8, e9, e10, e11, e12, e13, e14, e15, e16, r1, r2, r3, r4, r5, r6, r7, r8, r9, r10, r11, r13, r14⟩ := H
  have r13' := r13
  have r14' := r14
  obtain ⟨q1, q2, q3⟩ := r13
  obtain ⟨q4, q5, q6⟩ := r14
  simp (disch := first | omega | exact getEq rfl | exact getO0 | exact Nat.le_of_ble_eq_true rfl) [c5_o4, came_some, goI, List.getElem?_cons_zero, List.getElem?_cons_succ, kn, keep, frameOf, Heap.size, Heap.get, Eff.app, Heap.setOwn, putAt, AV.cells, fillA, loadA, takeA, mk, Eff.isAll, Eff.isNone, Eff.commutes, Eff.spares, okPair, apart, eqAgg, fits, LK.fits, allEq, aveq, eqk, mmA, beqT, wrapI, idxI, tdivI, tmodI, decT, decF, ibT, ibF, inT, inF, evScope_c, if_pos, if_neg, g0, g1, g2, g3, g4, g5, g6, K.k24, K.k25, e6, e7, e8, e9, List.replicate]
theorem f5_5 (J : CallF) (K : Kn3 J) (H : H5 x0 x1 x2 y0 y1 z0 z1 z2 z3 lot good bad den over t1 t3 l1 l2 m1 m2 k d n c e a1 a2 b1 b2 pa pb) : Tr tbl J c5_o5 (fun s h => s.get [true, false] = .ptr 1 0 2 ∧ s.get [false, false, false] = G lot ∧ s.get [true, false, false] = G good ∧ s.get [false, true, false] = G bad ∧ s.get [true, false, true] = .ptr 3 0 2 ∧ s.get [false, true, true] = .ptr 4 0 2 ∧ h = ⟨e0.get, 0, [.cells 0 3 [G x0, G x1, G x2], .cells 0 2 [G y0, G y1], .cells 0 4 [G z0, G z1, G z2, G z3], .cells 0 2 [G l1, G l2], .cells 0 2 [G m1, G m2]]⟩) .normal (fun s h => s.get [true, false] = .ptr 1 0 2 ∧ s.get [false, false, false] = G lot ∧ s.get [true, false, false] = G good ∧ s.get [false, true, false] = G bad ∧ s.get [true, false, true] = .ptr 3 0 2 ∧ s.get [false, true, true] = .ptr 4 0 2 ∧ s.get [true, true, true] = G n ∧ s.get [false, false, false, false] = G c ∧ s.get [true, false, false, false] = G e ∧ h = ⟨e0.get, 0, [.cells 0 3 [G x0, G x1, G x2], .cells 0 2 [G y0, G y1], .cells 0 4 [G z0, G z1, G z2, G z3], .cells 0 2 [G l1, G l2], .cells 0 2 [G m1, G m2]]⟩) := Tr.region fun s h hp => by
  obtain ⟨g0, g1, g2, g3, g4, g5, rfl⟩ := hp
  obtain ⟨e1, e2, e3, e4, e5, e6, e7, e8, e9, e10, e11, e12, e13, e14, e15, e16, r1, r2, r3, r4, r5, r6, r7, r8, r9, r10, r11, r13, r14⟩ := H
  have r13' := r13
  have r14' := r14
  obtain ⟨q1, q2, q3⟩ := r13
  obtain ⟨q4, q5, q6⟩ := r14
  simp (disch := first | omega | exact getEq rfl | exact getO0 | exact Nat.le_of_ble_eq_true rfl) [c5_o5, came_some, goI, List.getElem?_cons_zero, List.getElem?_cons_succ, kn, keep, frameOf, Heap.size, Heap.get, Eff.app, Heap.setOwn, putAt, AV.cells, fillA, loadA, takeA, mk, Eff.isAll, Eff.isNone, Eff.commutes, Eff.spares, okPair, apart, eqAgg, fits, LK.fits, allEq, aveq, eqk, mmA, beqT, wrapI, idxI, tdivI, tmodI, decT, decF, ibT, ibF, inT, inF, evScope_c, if_pos, if_neg, g0, g1, g2, g3, g4, g5, K.k17, e12]
theorem f5_6 (J : CallF) (K : Kn3 J) (H : H5 x0 x1 x2 y0 y1 z0 z1 z2 z3 lot good bad den over t1 t3 l1 l2 m1 m2 k d n c e a1 a2 b1 b2 pa pb) : Tr tbl J c5_o6 (fun s h => s.get [true, false] = .ptr 1 0 2 ∧ s.get [false, false, false] = G lot ∧ s.get [true, false, false] = G good ∧ s.get [false, true, false] = G bad ∧ s.get [true, false, true] = .ptr 3 0 2 ∧ s.get [false, true, true] = .ptr 4 0 2 ∧ s.get [true, true, true] = G n ∧ s.get [false, false, false, false] = G c ∧ s.get [true, false, false, false] = G e ∧ h = ⟨e0.get, 0, [.cells 0 3 [G x0, G x1, G x2], .cells 0 2 [G y0, G y1], .cells 0 4 [G z0, G z1, G z2, G z3], .cells 0 2 [G l1, G l2], .cells 0 2 [G m1, G m2]]⟩) .normal (fun s h => s.get [true, false] = .ptr 1 0 2 ∧ s.get [false, false, false] = G lot ∧ s.get [true, false, false] = G good ∧ s.get [false, true, false] = G bad ∧ s.get [true, false, true] = .ptr 3 0 2 ∧ s.get [false, true, true] = .ptr 4 0 2 ∧ s.get [true, true, true] = G n ∧ s.get [false, false, false, false] = G c ∧ s.get [true, false, false, false] = G e ∧ s.get [false, true, false, false] = G k ∧ h = ⟨e0.get, 0, [.cells 0 3 [G x0, G x1, G x2], .cells 0 2 [G y0, G y1], .cells 0 4 [G z0, G z1, G z2, G z3], .cells 0 2 [G l1, G l2], .cells 0 2 [G m1, G m2]]⟩) := Tr.region fun s h hp => by
  obtain ⟨g0, g1, g2, g3, g4, g5, g6, g7, g8, rfl⟩ := hp
  obtain ⟨e1, e2, e3, e4, e5, e6, e7, e8, e9, e10, e11, e12, e13, e14, e15, e16, r1, r2, r3, r4, r5, r6, r7, r8, r9, r10, r11, r13, r14⟩ := H
  have r13' := r13
  have r14' := r14
  obtain ⟨q1, q2, q3⟩ := r13
  obtain ⟨q4, q5, q6⟩ := r14
  have q24 := mdZ_lo y0 (show (0 : Int) < lot by omega)
  simp (disch := first | omega | exact getEq rfl | exact getO0 | exact Nat.le_of_ble_eq_true rfl) [c5_o6, came_some, goI, List.getElem?_cons_zero, List.getElem?_cons_succ, kn, keep, frameOf, Heap.size, Heap.get, Eff.app, Heap.setOwn, putAt, AV.cells, fillA, loadA, takeA, mk, Eff.isAll, Eff.isNone, Eff.commutes, Eff.spares, okPair, apart, eqAgg, fits, LK.fits, allEq, aveq, eqk, mmA, beqT, wrapI, idxI, tdivI, tmodI, decT, decF, ibT, ibF, inT, inF, evScope_c, if_pos, if_neg, g0, g1, g2, g3, g4, g5, g6, g7, g8, K.k24, e10]
theorem f5_7 (J : CallF) (K : Kn3 J) (H : H5 x0 x1 x2 y0 y1 z0 z1 z2 z3 lot good bad den over t1 t3 l1 l2 m1 m2 k d n c e a1 a2 b1 b2 pa pb) : Tr tbl J c5_o7 (fun s h => s.get [true, false] = .ptr 1 0 2 ∧ s.get [false, false, false] = G lot ∧ s.get [true, false, false] = G good ∧ s.get [false, true, false] = G bad ∧ s.get [true, false, true] = .ptr 3 0 2 ∧ s.get [false, true, true] = .ptr 4 0 2 ∧ s.get [true, true, true] = G n ∧ s.get [false, false, false, false] = G c ∧ s.get [true, false, false, false] = G e ∧ s.get [false, true, false, false] = G k ∧ h = ⟨e0.get, 0, [.cells 0 3 [G x0, G x1, G x2], .cells 0 2 [G y0, G y1], .cells 0 4 [G z0, G z1, G z2, G z3], .cells 0 2 [G l1, G l2], .cells 0 2 [G m1, G m2]]⟩) .normal (fun s h => s.get [false, false, false] = G lot ∧ s.get [true, false, false] = G good ∧ s.get [false, true, false] = G bad ∧ s.get [true, false, true] = .ptr 3 0 2 ∧ s.get [false, true, true] = .ptr 4 0 2 ∧ s.get [true, true, true] = G n ∧ s.get [false, false, false, false] = G c ∧ s.get [true, false, false, false] = G e ∧ s.get [false, true, false, false] = G k ∧ s.get [true, true, false, false] = G d ∧ h = ⟨e0.get, 0, [.cells 0 3 [G x0, G x1, G x2], .cells 0 2 [G y0, G y1], .cells 0 4 [G z0, G z1, G z2, G z3], .cells 0 2 [G l1, G l2], .cells 0 2 [G m1, G m2]]⟩) := Tr.region fun s h hp => by
  obtain ⟨g0, g1, g2, g3, g4, g5, g6, g7, g8, g9, rfl⟩ := hp
  obtain ⟨e1, e2, e3, e4, e5, e6, e7, e8, e9, e10, e11, e12, e13, e14, e15, e16, r1, r2, r3, r4, r5, r6, r7, r8, r9, r10, r11, r13, r14⟩ := H
  have r13' := r13
  have r14' := r14
  obtain ⟨q1, q2, q3⟩ := r13
  obtain ⟨q4, q5, q6⟩ := r14
  simp (disch := first | omega | exact getEq rfl | exact getO0 | exact Nat.le_of_ble_eq_true rfl) [c5_o7, came_some, goI, List.getElem?_cons_zero, List.getElem?_cons_succ, kn, keep, frameOf, Heap.size, Heap.get, Eff.app, Heap.setOwn, putAt, AV.cells, fillA, loadA, takeA, mk, Eff.isAll, Eff.isNone, Eff.commutes, Eff.spares, okPair, apart, eqAgg, fits, LK.fits, allEq, aveq, eqk, mmA, beqT, wrapI, idxI, tdivI, tmodI, decT, decF, ibT, ibF, inT, inF, evScope_c, if_pos, if_neg, g0, g1, g2, g3, g4, g5, g6, g7, g8, g9, K.k24, e11]
theorem f5_8 (J : CallF) (K : Kn3 J) (H : H5 x0 x1 x2 y0 y1 z0 z1 z2 z3 lot good bad den over t1 t3 l1 l2 m1 m2 k d n c e a1 a2 b1 b2 pa pb) : Tr tbl J c5_o8 (fun s h => s.get [false, false, false] = G lot ∧ s.get [true, false, false] = G good ∧ s.get [false, true, false] = G bad ∧ s.get [true, false, true] = .ptr 3 0 2 ∧ s.get [false, true, true] = .ptr 4 0 2 ∧ s.get [true, true, true] = G n ∧ s.get [false, false, false, false] = G c ∧ s.get [true, false, false, false] = G e ∧ s.get [false, true, false, false] = G k ∧ s.get [true, true, false, false] = G d ∧ h = ⟨e0.get, 0, [.cells 0 3 [G x0, G x1, G x2], .cells 0 2 [G y0, G y1], .cells 0 4 [G z0, G z1, G z2, G z3], .cells 0 2 [G l1, G l2], .cells 0 2 [G m1, G m2]]⟩) .normal (fun s h => s.get [false, false, false] = G lot ∧ s.get [true, false, false] = G good ∧ s.get [false, true, false] = G bad ∧ s.get [true, false, true] = .ptr 3 0 2 ∧ s.get [false, true, true] = .ptr 4 0 2 ∧ s.get [true, true, true] = G n ∧ s.get [false, false, false, false] = G c ∧ s.get [true, false, false, false] = G e ∧ s.get [false, true, false, false] = G k ∧ s.get [true, true, false, false] = G d ∧ s.get [false, false, true, false] = .ptr 5 0 2 ∧ s.get [true, false, true, false] = G 0 ∧ h = ⟨e0.get, 0, [.cells 0 3 [G x0, G x1, G x2], .cells 0 2 [G y0, G y1], .cells 0 4 [G z0, G z1, G z2, G z3], .cells 0 2 [G l1, G l2], .cells 0 2 [G m1, G m2], .cells 0 2 [G a1, G a2]]⟩) := Tr.region fun s h hp => by
  obtain ⟨g0, g1, g2, g3, g4, g5, g6, g7, g8, g9, rfl⟩ := hp
  obtain ⟨e1, e2, e3, e4, e5, e6, e7, e8, e9, e10, e11, e12, e13, e14, e15, e16, r1, r2, r3, r4, r5, r6, r7, r8, r9, r10, r11, r13, r14⟩ := H
  have r13' := r13
  have r14' := r14
  obtain ⟨q1, q2, q3⟩ := r13
  obtain ⟨q4, q5, q6⟩ := r14
  simp (disch := first | omega | exact getEq rfl | exact getO0 | exact Nat.le_of_ble_eq_true rfl) [c5_o8, came_some, goI, List.getElem?_cons_zero, List.getElem?_cons_succ, kn, keep, frameOf, Heap.size, Heap.get, Eff.app, Heap.setOwn, putAt, AV.cells, fillA, loadA, takeA, mk, Eff.isAll, Eff.isNone, Eff.commutes, Eff.spares, okPair, apart, eqAgg, fits, LK.fits, allEq, aveq, eqk, mmA, beqT, wrapI, idxI, tdivI, tmodI, decT, decF, ibT, ibF, inT, inF, evScope_c, if_pos, if_neg, g0, g1, g2, g3, g4, g5, g6, g7, g8, g9, K.k23, e13]
theorem f5_9 (J : CallF) (K : Kn3 J) (H : H5 x0 x1 x2 y0 y1 z0 z1 z2 z3 lot good bad den over t1 t3 l1 l2 m1 m2 k d n c e a1 a2 b1 b2 pa pb) : Tr tbl J c5_o9 (fun s h => s.get [false, false, false] = G lot ∧ s.get [true, false, false] = G good ∧ s.get [false, true, false] = G bad ∧ s.get [true, false, true] = .ptr 3 0 2 ∧ s.get [false, true, true] = .ptr 4 0 2 ∧ s.get [true, true, true] = G n ∧ s.get [false, false, false, false] = G c ∧ s.get [true, false, false, false] = G e ∧ s.get [false, true, false, false] = G k ∧ s.get [true, true, false, false] = G d ∧ s.get [false, false, true, false] = .ptr 5 0 2 ∧ s.get [true, false, true, false] = G 0 ∧ h = ⟨e0.get, 0, [.cells 0 3 [G x0, G x1, G x2], .cells 0 2 [G y0, G y1], .cells 0 4 [G z0, G z1, G z2, G z3], .cells 0 2 [G l1, G l2], .cells 0 2 [G m1, G m2], .cells 0 2 [G a1, G a2]]⟩) .normal (fun s h => s.get [false, false, false] = G lot ∧ s.get [true, false, false] = G good ∧ s.get [false, true, false] = G bad ∧ s.get [true, false, true] = .ptr 3 0 2 ∧ s.get [false, true, true] = .ptr 4 0 2 ∧ s.get [true, true, true] = G n ∧ s.get [false, false, false, false] = G c ∧ s.get [true, false, false, false] = G e ∧ s.get [false, true, false, false] = G k ∧ s.get [true, true, false, false] = G d ∧ s.get [false, false, true, false] = .ptr 5 0 2 ∧ s.get [true, false, true, false] = G 0 ∧ s.get [false, true, true, false] = .ptr 6 0 2 ∧ s.get [true, true, true, false] = G 0 ∧ h = ⟨e0.get, 0, [.cells 0 3 [G x0, G x1, G x2], .cells 0 2 [G y0, G y1], .cells 0 4 [G z0, G z1, G z2, G z3], .cells 0 2 [G l1, G l2], .cells 0 2 [G m1, G m2], .cells 0 2 [G a1, G a2], .cells 0 2 [G b1, G b2]]⟩) := Tr.region fun s h hp => by
  obtain ⟨g0, g1, g2, g3, g4, g5, g6, g7, g8, g9, g10, g11, rfl⟩ := hp
  obtain ⟨e1, e2, e3, e4, e5, e6, e7, e8, e9, e10, e11, e12, e13, e14, e15, e16, r1, r2, r3, r4, r5, r6, r7, r8, r9, r10, r11, r13, r14⟩ := H
  have r13' := r13
  have r14' := r14
  obtain ⟨q1, q2, q3⟩ := r13
  obtain ⟨q4, q5, q6⟩ := r14
  simp (disch := first | omega | exact getEq rfl | exact getO0 | exact Nat.le_of_ble_eq_true rfl) [c5_o9, came_some, goI, List.getElem?_cons_zero, List.getElem?_cons_succ, kn, keep, frameOf, Heap.size, Heap.get, Eff.app, Heap.setOwn, putAt, AV.cells, fillA, loadA, takeA, mk, Eff.isAll, Eff.isNone, Eff.commutes, Eff.spares, okPair, apart, eqAgg, fits, LK.fits, allEq, aveq, eqk, mmA, beqT, wrapI, idxI, tdivI, tmodI, decT, decF, ibT, ibF, inT, inF, evScope_c, if_pos, if_neg, g0, g1, g2, g3, g4, g5, g6, g7, g8, g9, g10, g11, K.k23, e14]
theorem f5_10 (J : CallF) (K : Kn3 J) (H : H5 x0 x1 x2 y0 y1 z0 z1 z2 z3 lot good bad den over t1 t3 l1 l2 m1 m2 k d n c e a1 a2 b1 b2 pa pb) : Tr tbl J (.seq c5_o10 (.cond (.s [true, true, false, false, true, true]) (.seq c5_o11 .ret) .skip)) (fun s h => s.get [false, false, false] = G lot ∧ s.get [true, false, false] = G good ∧ s.get [false, true, false] = G bad ∧ s.get [true, false, true] = .ptr 3 0 2 ∧ s.get [false, true, true] = .ptr 4 0 2 ∧ s.get [true, true, true] = G n ∧ s.get [false, false, false, false] = G c ∧ s.get [true, false, false, false] = G e ∧ s.get [false, true, false, false] = G k ∧ s.get [true, true, false, false] = G d ∧ s.get [false, false, true, false] = .ptr 5 0 2 ∧ s.get [true, false, true, false] = G 0 ∧ s.get [false, true, true, false] = .ptr 6 0 2 ∧ s.get [true, true, true, false] = G 0 ∧ h = ⟨e0.get, 0, [.cells 0 3 [G x0, G x1, G x2], .cells 0 2 [G y0, G y1], .cells 0 4 [G z0, G z1, G z2, G z3], .cells 0 2 [G l1, G l2], .cells 0 2 [G m1, G m2], .cells 0 2 [G a1, G a2], .cells 0 2 [G b1, G b2]]⟩) .normal (fun s h => s.get [false, false, false] = G lot ∧ s.get [true, false, false] = G good ∧ s.get [false, true, false] = G bad ∧ s.get [true, false, true] = .ptr 3 0 2 ∧ s.get [false, true, true] = .ptr 4 0 2 ∧ s.get [true, true, true] = G n ∧ s.get [false, false, false, false] = G c ∧ s.get [true, false, false, false] = G e ∧ s.get [false, true, false, false] = G k ∧ s.get [true, true, false, false] = G d ∧ s.get [false, false, true, false] = .ptr 5 0 2 ∧ s.get [false, true, true, false] = .ptr 6 0 2 ∧ h = ⟨e0.get, 0, [.cells 0 3 [G x0, G x1, G x2], .cells 0 2 [G y0, G y1], .cells 0 4 [G z0, G z1, G z2, G z3], .cells 0 2 [G l1, G l2], .cells 0 2 [G m1, G m2], .cells 0 2 [G a1, G a2], .cells 0 2 [G b1, G b2]]⟩) := Tr.region fun s h hp => by
  obtain ⟨g0, g1, g2, g3, g4, g5, g6, g7, g8, g9, g10, g11, g12, g13, rfl⟩ := hp
  obtain ⟨e1, e2, e3, e4, e5, e6, e7, e8, e9, e10, e11, e12, e13, e14, e15, e16, r1, r2, r3, r4, r5, r6, r7, r8, r9, r10, r11, r13, r14⟩ := H
  have r13' := r13
  have r14' := r14
  obtain ⟨q1, q2, q3⟩ := r13
  obtain ⟨q4, q5, q6⟩ := r14
  simp (disch := first | omega | exact getEq rfl | exact getO0 | exact Nat.le_of_ble_eq_true rfl) [c5_o10, c5_o11, came_some, goI, List.getElem?_cons_zero, List.getElem?_cons_succ, kn, keep, frameOf, Heap.size, Heap.get, Eff.app, Heap.setOwn, putAt, AV.cells, fillA, loadA, takeA, mk, Eff.isAll, Eff.isNone, Eff.commutes, Eff.spares, okPair, apart, eqAgg, fits, LK.fits, allEq, aveq, eqk, mmA, beqT, wrapI, idxI, tdivI, tmodI, decT, decF, ibT, ibF, inT, inF, evScope_c, if_pos, if_neg, g0, g1, g2, g3, g4, g5, g6, g7, g8, g9, g10, g11, g12, g13, K.k26, r13', r14']
theorem f5_11 (J : CallF) (K : Kn3 J) (H : H5 x0 x1 x2 y0 y1 z0 z1 z2 z3 lot good bad den over t1 t3 l1 l2 m1 m2 k d n c e a1 a2 b1 b2 pa pb) : Tr tbl J c5_o12 (fun s h => s.get [false, false, false] = G lot ∧ s.get [true, false, false] = G good ∧ s.get [false, true, false] = G bad ∧ s.get [true, false, true] = .ptr 3 0 2 ∧ s.get [false, true, true] = .ptr 4 0 2 ∧ s.get [true, true, true] = G n ∧ s.get [false, false, false, false] = G c ∧ s.get [true, false, false, false] = G e ∧ s.get [false, true, false, false] = G k ∧ s.get [true, true, false, false] = G d ∧ s.get [false, false, true, false] = .ptr 5 0 2 ∧ s.get [false, true, true, false] = .ptr 6 0 2 ∧ h = ⟨e0.get, 0, [.cells 0 3 [G x0, G x1, G x2], .cells 0 2 [G y0, G y1], .cells 0 4 [G z0, G z1, G z2, G z3], .cells 0 2 [G l1, G l2], .cells 0 2 [G m1, G m2], .cells 0 2 [G a1, G a2], .cells 0 2 [G b1, G b2]]⟩) .normal (fun s h => s.get [false, false, false] = G lot ∧ s.get [true, false, false] = G good ∧ s.get [false, true, false] = G bad ∧ s.get [true, false, true] = .ptr 3 0 2 ∧ s.get [false, true, true] = .ptr 4 0 2 ∧ s.get [true, true, true] = G n ∧ s.get [false, false, false, false] = G c ∧ s.get [true, false, false, false] = G e ∧ s.get [false, true, false, false] = G k ∧ s.get [true, true, false, false] = G d ∧ s.get [false, false, false, true] = .bool (!pa && !pb) ∧ h = ⟨e0.get, 0, [.cells 0 3 [G x0, G x1, G x2], .cells 0 2 [G y0, G y1], .cells 0 4 [G z0, G z1, G z2, G z3], .cells 0 2 [G l1, G l2], .cells 0 2 [G m1, G m2], .cells 0 2 [G a1, G a2], .cells 0 2 [G b1, G b2]]⟩) := Tr.region fun s h hp => by
  obtain ⟨g0, g1, g2, g3, g4, g5, g6, g7, g8, g9, g10, g11, rfl⟩ := hp
  obtain ⟨e1, e2, e3, e4, e5, e6, e7, e8, e9, e10, e11, e12, e13, e14, e15, e16, r1, r2, r3, r4, r5, r6, r7, r8, r9, r10, r11, r13, r14⟩ := H
  have r13' := r13
  have r14' := r14
  obtain ⟨q1, q2, q3⟩ := r13
  obtain ⟨q4, q5, q6⟩ := r14
  cases pa <;> simp (disch := first | omega | exact getEq rfl | exact getO0 | exact Nat.le_of_ble_eq_true rfl) [c5_o12, came_some, goI, List.getElem?_cons_zero, List.getElem?_cons_succ, kn, keep, frameOf, Heap.size, Heap.get, Eff.app, Heap.setOwn, putAt, AV.cells, fillA, loadA, takeA, mk, Eff.isAll, Eff.isNone, Eff.commutes, Eff.spares, okPair, apart, eqAgg, fits, LK.fits, allEq, aveq, eqk, mmA, beqT, wrapI, idxI, tdivI, tmodI, decT, decF, ibT, ibF, inT, inF, evScope_c, if_pos, if_neg, g0, g1, g2, g3, g4, g5, g6, g7, g8, g9, g10, g11, K.k27, e15, e16]
theorem f5a_12 (J : CallF) (K : Kn3 J) (he : e = 6) (hp : (!pa && !pb) = false) : Tr tbl J (.seq c5_o13 (.cond (.s [true, true, true, true, true, true]) (.seq c5_o14 .ret) .skip)) (fun s h => s.get [false, false, false] = G lot ∧ s.get [true, false, false] = G good ∧ s.get [false, true, false] = G bad ∧ s.get [true, false, true] = .ptr 3 0 2 ∧ s.get [false, true, true] = .ptr 4 0 2 ∧ s.get [true, true, true] = G n ∧ s.get [false, false, false, false] = G c ∧ s.get [true, false, false, false] = G e ∧ s.get [false, true, false, false] = G k ∧ s.get [true, true, false, false] = G d ∧ s.get [false, false, false, true] = .bool (!pa && !pb) ∧ h = ⟨e0.get, 0, [.cells 0 3 [G x0, G x1, G x2], .cells 0 2 [G y0, G y1], .cells 0 4 [G z0, G z1, G z2, G z3], .cells 0 2 [G l1, G l2], .cells 0 2 [G m1, G m2], .cells 0 2 [G a1, G a2], .cells 0 2 [G b1, G b2]]⟩) .ret (fun s h => s.get [true, true] = .bool true) := Tr.region fun s h hp => by
  obtain ⟨g0, g1, g2, g3, g4, g5, g6, g7, g8, g9, g10, rfl⟩ := hp
  subst he; rw [hp] at *; simp (disch := first | omega | exact getEq rfl | exact getO0 | exact Nat.le_of_ble_eq_true rfl) [c5_o13, c5_o14, came_some, goI, List.getElem?_cons_zero, List.getElem?_cons_succ, kn, keep, frameOf, Heap.size, Heap.get, Eff.app, Heap.setOwn, putAt, AV.cells, fillA, loadA, takeA, mk, Eff.isAll, Eff.isNone, Eff.commutes, Eff.spares, okPair, apart, eqAgg, fits, LK.fits, allEq, aveq, eqk, mmA, beqT, wrapI, idxI, tdivI, tmodI, decT, decF, ibT, ibF, inT, inF, evScope_c, if_pos, if_neg, g0, g1, g2, g3, g4, g5, g6, g7, g8, g9, g10, K.k20]
structure H5b (lot good bad l1 l2 m1 m2 k d n c u1 u2 v1 v2 : Int) (pa pb : Bool) : Prop where
  e1 : fr (acc lot good n (c.toNat + 1)) (ofZ lot good) = .agg [G u1, G u2]
  e2 : fr (acc lot bad n (c.toNat + 1)) (ofZ lot bad) = .agg [G v1, G v2]
  e3 : decide (u1 * l2 < l1 * u2) = false
  e4 : decide (m1 * v2 < v1 * m2) = false
  r1 : 1 ≤ lot ∧ lot ≤ 36
  r2 : 0 ≤ good ∧ good ≤ lot
  r3 : 0 ≤ bad ∧ bad ≤ lot
  r8 : 0 ≤ l1 ∧ l1 ≤ 1000 ∧ 1 ≤ l2 ∧ l2 ≤ 1000
  r9 : 0 ≤ m1 ∧ m1 ≤ 1000 ∧ 1 ≤ m2 ∧ m2 ≤ 1000
  r10 : 1 ≤ n ∧ n ≤ lot
  r11 : 0 ≤ c ∧ c < n
  r13 : vOk u1 u2
  r14 : vOk v1 v2
  fin : (!pa && !pb) = false ∨ n < k ∨ (n = k ∧ c ≤ d)
theorem f5b_12 (J : CallF) (K : Kn3 J) {u1 u2 v1 v2 : Int} (H : H5b lot good bad l1 l2 m1 m2 k d n c u1 u2 v1 v2 pa pb) : Tr tbl J (.seq c5_o13 (.cond (.s [true, true, true, true, true, true]) (.seq c5_o14 .ret) .skip)) (fun s h => s.get [false, false, false] = G lot ∧ s.get [true, false, false] = G good ∧ s.get [false, true, false] = G bad ∧ s.get [true, false, true] = .ptr 3 0 2 ∧ s.get [false, true, true] = .ptr 4 0 2 ∧ s.get [true, true, true] = G n ∧ s.get [false, false, false, false] = G c ∧ s.get [true, false, false, false] = G 0 ∧ s.get [false, true, false, false] = G k ∧ s.get [true, true, false, false] = G d ∧ s.get [false, false, false, true] = .bool (!pa && !pb) ∧ h = ⟨e0.get, 0, [.cells 0 3 [G x0, G x1, G x2], .cells 0 2 [G y0, G y1], .cells 0 4 [G z0, G z1, G z2, G z3], .cells 0 2 [G l1, G l2], .cells 0 2 [G m1, G m2], .cells 0 2 [G a1, G a2], .cells 0 2 [G b1, G b2]]⟩) .normal (fun s h => s.get [false, false, false] = G lot ∧ s.get [true, false, false] = G good ∧ s.get [false, true, false] = G bad ∧ s.get [true, false, true] = .ptr 3 0 2 ∧ s.get [false, true, true] = .ptr 4 0 2 ∧ s.get [true, true, true] = G n ∧ s.get [false, false, false, false] = G c ∧ s.get [false, true, false, false] = G k ∧ s.get [true, true, false, false] = G d ∧ s.get [false, false, false, true] = .bool (!pa && !pb) ∧ h = ⟨e0.get, 0, [.cells 0 3 [G x0, G x1, G x2], .cells 0 2 [G y0, G y1], .cells 0 4 [G z0, G z1, G z2, G z3], .cells 0 2 [G l1, G l2], .cells 0 2 [G m1, G m2], .cells 0 2 [G a1, G a2], .cells 0 2 [G b1, G b2]]⟩) := Tr.region fun s h hp => by
  obtain ⟨g0, g1, g2, g3, g4, g5, g6, g7, g8, g9, g10, rfl⟩ := hp
  obtain ⟨e1, e2, e3, e4, r1, r2, r3, r8, r9, r10, r11, r13, r14, fin⟩ := H
  have r13' := r13
  have r14' := r14
  obtain ⟨q1, q2, q3⟩ := r13
  obtain ⟨q4, q5, q6⟩ := r14
  simp (disch := first | omega | exact getEq rfl | exact getO0 | exact Nat.le_of_ble_eq_true rfl) [c5_o13, c5_o14, came_some, goI, List.getElem?_cons_zero, List.getElem?_cons_succ, kn, keep, frameOf, Heap.size, Heap.get, Eff.app, Heap.setOwn, putAt, AV.cells, fillA, loadA, takeA, mk, Eff.isAll, Eff.isNone, Eff.commutes, Eff.spares, okPair, apart, eqAgg, fits, LK.fits, allEq, aveq, eqk, mmA, beqT, wrapI, idxI, tdivI, tmodI, decT, decF, ibT, ibF, inT, inF, evScope_c, if_pos, if_neg, g0, g1, g2, g3, g4, g5, g6, g7, g8, g9, g10]
theorem f5b_13 (J : CallF) (K : Kn3 J) {u1 u2 v1 v2 : Int} (H : H5b lot good bad l1 l2 m1 m2 k d n c u1 u2 v1 v2 pa pb) : Tr tbl J c5_o15 (fun s h => s.get [false, false, false] = G lot ∧ s.get [true, false, false] = G good ∧ s.get [false, true, false] = G bad ∧ s.get [true, false, true] = .ptr 3 0 2 ∧ s.get [false, true, true] = .ptr 4 0 2 ∧ s.get [true, true, true] = G n ∧ s.get [false, false, false, false] = G c ∧ s.get [false, true, false, false] = G k ∧ s.get [true, true, false, false] = G d ∧ s.get [false, false, false, true] = .bool (!pa && !pb) ∧ h = ⟨e0.get, 0, [.cells 0 3 [G x0, G x1, G x2], .cells 0 2 [G y0, G y1], .cells 0 4 [G z0, G z1, G z2, G z3], .cells 0 2 [G l1, G l2], .cells 0 2 [G m1, G m2], .cells 0 2 [G a1, G a2], .cells 0 2 [G b1, G b2]]⟩) .normal (fun s h => s.get [false, false, false] = G lot ∧ s.get [false, true, false] = G bad ∧ s.get [true, false, true] = .ptr 3 0 2 ∧ s.get [false, true, true] = .ptr 4 0 2 ∧ s.get [true, true, true] = G n ∧ s.get [false, false, false, false] = G c ∧ s.get [false, true, false, false] = G k ∧ s.get [true, true, false, false] = G d ∧ s.get [false, false, false, true] = .bool (!pa && !pb) ∧ s.get [true, false, false, true] = .ptr 7 0 2 ∧ s.get [false, true, false, true] = G 0 ∧ h = ⟨e0.get, 0, [.cells 0 3 [G x0, G x1, G x2], .cells 0 2 [G y0, G y1], .cells 0 4 [G z0, G z1, G z2, G z3], .cells 0 2 [G l1, G l2], .cells 0 2 [G m1, G m2], .cells 0 2 [G a1, G a2], .cells 0 2 [G b1, G b2], .cells 0 2 [G u1, G u2]]⟩) := Tr.region fun s h hp => by
  obtain ⟨g0, g1, g2, g3, g4, g5, g6, g7, g8, g9, rfl⟩ := hp
  obtain ⟨e1, e2, e3, e4, r1, r2, r3, r8, r9, r10, r11, r13, r14, fin⟩ := H
  have r13' := r13
  have r14' := r14
  obtain ⟨q1, q2, q3⟩ := r13
  obtain ⟨q4, q5, q6⟩ := r14
  simp (disch := first | omega | exact getEq rfl | exact getO0 | exact Nat.le_of_ble_eq_true rfl) [c5_o15, came_some, goI, List.getElem?_cons_zero, List.getElem?_cons_succ, kn, keep, frameOf, Heap.size, Heap.get, Eff.app, Heap.setOwn, putAt, AV.cells, fillA, loadA, takeA, mk, Eff.isAll, Eff.isNone, Eff.commutes, Eff.spares, okPair, apart, eqAgg, fits, LK.fits, allEq, aveq, eqk, mmA, beqT, wrapI, idxI, tdivI, tmodI, decT, decF, ibT, ibF, inT, inF, evScope_c, if_pos, if_neg, g0, g1, g2, g3, g4, g5, g6, g7, g8, g9, K.k23, e1]
theorem f5b_14 (J : CallF) (K : Kn3 J) {u1 u2 v1 v2 : Int} (H : H5b lot good bad l1 l2 m1 m2 k d n c u1 u2 v1 v2 pa pb) : Tr tbl J c5_o16 (fun s h => s.get [false, false, false] = G lot ∧ s.get [false, true, false] = G bad ∧ s.get [true, false, true] = .ptr 3 0 2 ∧ s.get [false, true, true] = .ptr 4 0 2 ∧ s.get [true, true, true] = G n ∧ s.get [false, false, false, false] = G c ∧ s.get [false, true, false, false] = G k ∧ s.get [true, true, false, false] = G d ∧ s.get [false, false, false, true] = .bool (!pa && !pb) ∧ s.get [true, false, false, true] = .ptr 7 0 2 ∧ s.get [false, true, false, true] = G 0 ∧ h = ⟨e0.get, 0, [.cells 0 3 [G x0, G x1, G x2], .cells 0 2 [G y0, G y1], .cells 0 4 [G z0, G z1, G z2, G z3], .cells 0 2 [G l1, G l2], .cells 0 2 [G m1, G m2], .cells 0 2 [G a1, G a2], .cells 0 2 [G b1, G b2], .cells 0 2 [G u1, G u2]]⟩) .normal (fun s h => s.get [true, false, true] = .ptr 3 0 2 ∧ s.get [false, true, true] = .ptr 4 0 2 ∧ s.get [true, true, true] = G n ∧ s.get [false, false, false, false] = G c ∧ s.get [false, true, false, false] = G k ∧ s.get [true, true, false, false] = G d ∧ s.get [false, false, false, true] = .bool (!pa && !pb) ∧ s.get [true, false, false, true] = .ptr 7 0 2 ∧ s.get [false, true, false, true] = G 0 ∧ s.get [true, true, false, true] = .ptr 8 0 2 ∧ s.get [false, false, true, true] = G 0 ∧ h = ⟨e0.get, 0, [.cells 0 3 [G x0, G x1, G x2], .cells 0 2 [G y0, G y1], .cells 0 4 [G z0, G z1, G z2, G z3], .cells 0 2 [G l1, G l2], .cells 0 2 [G m1, G m2], .cells 0 2 [G a1, G a2], .cells 0 2 [G b1, G b2], .cells 0 2 [G u1, G u2], .cells 0 2 [G v1, G v2]]⟩) := Tr.region fun s h hp => by
  obtain ⟨g0, g1, g2, g3, g4, g5, g6, g7, g8, g9, g10, rfl⟩ := hp
  obtain ⟨e1, e2, e3, e4, r1, r2, r3, r8, r9, r10, r11, r13, r14, fin⟩ := H
  have r13' := r13
  have r14' := r14
  obtain ⟨q1, q2, q3⟩ := r13
  obtain ⟨q4, q5, q6⟩ := r14
  simp (disch := first | omega | exact getEq rfl | exact getO0 | exact Nat.le_of_ble_eq_true rfl) [c5_o16, came_some, goI, List.getElem?_cons_zero, List.getElem?_cons_succ, kn, keep, frameOf, Heap.size, Heap.get, Eff.app, Heap.setOwn, putAt, AV.cells, fillA, loadA, takeA, mk, Eff.isAll, Eff.isNone, Eff.commutes, Eff.spares, okPair, apart, eqAgg, fits, LK.fits, allEq, aveq, eqk, mmA, beqT, wrapI, idxI, tdivI, tmodI, decT, decF, ibT, ibF, inT, inF, evScope_c, if_pos, if_neg, g0, g1, g2, g3, g4, g5, g6, g7, g8, g9, g10, K.k23, e2]
theorem f5b_15 (J : CallF) (K : Kn3 J) {u1 u2 v1 v2 : Int} (H : H5b lot good bad l1 l2 m1 m2 k d n c u1 u2 v1 v2 pa pb) : Tr tbl J (.seq c5_o17 (.cond (.s [false, true, false, false, true, true, false]) (.seq c5_o18 .ret) .skip)) (fun s h => s.get [true, false, true] = .ptr 3 0 2 ∧ s.get [false, true, true] = .ptr 4 0 2 ∧ s.get [true, true, true] = G n ∧ s.get [false, false, false, false] = G c ∧ s.get [false, true, false, false] = G k ∧ s.get [true, true, false, false] = G d ∧ s.get [false, false, false, true] = .bool (!pa && !pb) ∧ s.get [true, false, false, true] = .ptr 7 0 2 ∧ s.get [false, true, false, true] = G 0 ∧ s.get [true, true, false, true] = .ptr 8 0 2 ∧ s.get [false, false, true, true] = G 0 ∧ h = ⟨e0.get, 0, [.cells 0 3 [G x0, G x1, G x2], .cells 0 2 [G y0, G y1], .cells 0 4 [G z0, G z1, G z2, G z3], .cells 0 2 [G l1, G l2], .cells 0 2 [G m1, G m2], .cells 0 2 [G a1, G a2], .cells 0 2 [G b1, G b2], .cells 0 2 [G u1, G u2], .cells 0 2 [G v1, G v2]]⟩) .normal (fun s h => s.get [true, true, true] = G n ∧ s.get [false, false, false, false] = G c ∧ s.get [false, true, false, false] = G k ∧ s.get [true, true, false, false] = G d ∧ s.get [false, false, false, true] = .bool (!pa && !pb) ∧ h = ⟨e0.get, 0, [.cells 0 3 [G x0, G x1, G x2], .cells 0 2 [G y0, G y1], .cells 0 4 [G z0, G z1, G z2, G z3], .cells 0 2 [G l1, G l2], .cells 0 2 [G m1, G m2], .cells 0 2 [G a1, G a2], .cells 0 2 [G b1, G b2], .cells 0 2 [G u1, G u2], .cells 0 2 [G v1, G v2]]⟩) := Tr.region fun s h hp => by
  obtain ⟨g0, g1, g2, g3, g4, g5, g6, g7, g8, g9, g10, rfl⟩ := hp
  obtain ⟨e1, e2, e3, e4, r1, r2, r3, r8, r9, r10, r11, r13, r14, fin⟩ := H
  have r13' := r13
  have r14' := r14
  obtain ⟨q1, q2, q3⟩ := r13
  obtain ⟨q4, q5, q6⟩ := r14
  simp (disch := first | omega | exact getEq rfl | exact getO0 | exact Nat.le_of_ble_eq_true rfl) [c5_o17, c5_o18, came_some, goI, List.getElem?_cons_zero, List.getElem?_cons_succ, kn, keep, frameOf, Heap.size, Heap.get, Eff.app, Heap.setOwn, putAt, AV.cells, fillA, loadA, takeA, mk, Eff.isAll, Eff.isNone, Eff.commutes, Eff.spares, okPair, apart, eqAgg, fits, LK.fits, allEq, aveq, eqk, mmA, beqT, wrapI, idxI, tdivI, tmodI, decT, decF, ibT, ibF, inT, inF, evScope_c, if_pos, if_neg, g0, g1, g2, g3, g4, g5, g6, g7, g8, g9, g10, K.k26, K.k27, r13', r14', e3, e4]
theorem f5b_16 (J : CallF) (K : Kn3 J) {u1 u2 v1 v2 : Int} (H : H5b lot good bad l1 l2 m1 m2 k d n c u1 u2 v1 v2 pa pb) : Tr tbl J c5_o19 (fun s h => s.get [true, true, true] = G n ∧ s.get [false, false, false, false] = G c ∧ s.get [false, true, false, false] = G k ∧ s.get [true, true, false, false] = G d ∧ s.get [false, false, false, true] = .bool (!pa && !pb) ∧ h = ⟨e0.get, 0, [.cells 0 3 [G x0, G x1, G x2], .cells 0 2 [G y0, G y1], .cells 0 4 [G z0, G z1, G z2, G z3], .cells 0 2 [G l1, G l2], .cells 0 2 [G m1, G m2], .cells 0 2 [G a1, G a2], .cells 0 2 [G b1, G b2], .cells 0 2 [G u1, G u2], .cells 0 2 [G v1, G v2]]⟩) .normal (fun s h => s.get [true, true] = .bool true) := Tr.region fun s h hp => by
  obtain ⟨g0, g1, g2, g3, g4, rfl⟩ := hp
  obtain ⟨e1, e2, e3, e4, r1, r2, r3, r8, r9, r10, r11, r13, r14, fin⟩ := H
  have r13' := r13
  have r14' := r14
  obtain ⟨q1, q2, q3⟩ := r13
  obtain ⟨q4, q5, q6⟩ := r14
  have q : (!pa && !pb) = true ∨ (!pa && !pb) = false := by cases (!pa && !pb) <;> simp
  generalize (!pa && !pb) = en at *
  rcases fin with h | h | h <;> rcases q with q | q <;> (try rw [q] at h) <;> (try cases h) <;> (try subst q) <;> (try simp (disch := first | omega | exact getEq rfl | exact getO0 | exact Nat.le_of_ble_eq_true rfl) [c5_o19, came_some, goI, List.getElem?_cons_zero, List.getElem?_cons_succ, kn, keep, frameOf, Heap.size, Heap.get, Eff.app, Heap.setOwn, putAt, AV.cells, fillA, loadA, takeA, mk, Eff.isAll, Eff.isNone, Eff.commutes, Eff.spares, okPair, apart, eqAgg, fits, LK.fits, allEq, aveq, eqk, mmA, beqT, wrapI, idxI, tdivI, tmodI, decT, decF, ibT, ibF, inT, inF, evScope_c, if_pos, if_neg, g0, g1, g2, g3, g4, K.k20])
end

theorem acc_le_all {lot bad n : Int} (h0 : 0 ≤ n) (h1 : n ≤ lot) (h2 : 0 ≤ bad) (h3 : bad ≤ lot) (m : Nat) : acc lot bad n m ≤ ofZ lot bad := by
  rw [← acc_all h0 h1 h2 h3]
  by_cases hm : m ≤ bad.toNat + 1
  · obtain ⟨j, hj⟩ : ∃ j, m + j = bad.toNat + 1 := ⟨bad.toNat + 1 - m, by omega⟩
    rw [acc_sm, acc_sm, ← hj]; exact sm_le _ _ _
  · obtain ⟨j, hj⟩ : ∃ j, m = bad.toNat + 1 + j := ⟨m - (bad.toNat + 1), by omega⟩
    rw [hj, acc_over h2]; exact Nat.le_refl _

theorem fr_two {x y : Int} (h1 : 0 ≤ x) (h3 : 0 < y) : ∃ g u v : Int, 0 < g ∧ x = g * u ∧ y = g * v ∧ fr x y = .agg [G u, G v] ∧ (0 ≤ u ∧ u ≤ x) ∧ (1 ≤ v ∧ v ≤ y) ∧ Nat.gcd u.toNat v.toNat = 1 := by
  obtain ⟨X, rfl⟩ : ∃ X : Nat, x = X := ⟨x.toNat, by omega⟩
  obtain ⟨Y, rfl⟩ : ∃ Y : Nat, y = Y := ⟨y.toNat, by omega⟩
  obtain ⟨g, u, v, hg, e1, e2, e3, e4, e5⟩ := fr_parts (a := X) (b := Y) (by omega)
  have hv : 0 < v := by
    rcases Nat.eq_zero_or_pos v with h | h
    · subst h; rw [Nat.mul_zero] at e2; omega
    · exact h
  have l1 : u ≤ X := by rw [e1]; exact Nat.le_mul_of_pos_left _ hg
  have l2 : v ≤ Y := by rw [e2]; exact Nat.le_mul_of_pos_left _ hg
  refine ⟨g, u, v, by omega, by rw [e1]; simp, by rw [e2]; simp, by unfold fr; simp only [Int.toNat_natCast]; rw [e3, e4], ⟨by omega, by omega⟩, ⟨by omega, by omega⟩, ?_⟩
  simp only [Int.toNat_natCast]
  rw [e1, e2, Nat.gcd_mul_left] at e5
  exact Nat.eq_of_mul_eq_mul_left hg (by rw [← e5, Nat.mul_one])

theorem cross_l {g x y u v p q : Int} (hg : 0 < g) (e1 : x = g * u) (e2 : y = g * v) : u * q < p * v ↔ x * q < p * y := by
  rw [e1, e2, Int.mul_assoc, Int.mul_left_comm p g v]
  exact ⟨fun h => Int.mul_lt_mul_of_pos_left h hg, fun h => Int.lt_of_mul_lt_mul_left h (Int.le_of_lt hg)⟩
theorem cross_r {g x y u v p q : Int} (hg : 0 < g) (e1 : x = g * u) (e2 : y = g * v) : p * v < u * q ↔ p * y < x * q := by
  rw [e1, e2, Int.mul_assoc, Int.mul_left_comm p g v]
  exact ⟨fun h => Int.mul_lt_mul_of_pos_left h hg, fun h => Int.lt_of_mul_lt_mul_left h (Int.le_of_lt hg)⟩

/-- What a single plan's chance is, as two numbers. -/
theorem fr_acc {lot bad n c : Int} (h1 : 1 ≤ lot ∧ lot ≤ 36) (h2 : 0 ≤ bad ∧ bad ≤ lot) (h3 : 1 ≤ n ∧ n ≤ lot) : ∃ g u v : Int, 0 < g ∧ (acc lot bad n (c.toNat + 1) : Int) = g * u ∧ (ofZ lot bad : Int) = g * v ∧ fr (acc lot bad n (c.toNat + 1)) (ofZ lot bad) = .agg [G u, G v] ∧ vOk u v := by
  have q := ofZ_pos h2.1 h2.2
  have b := ofZ_le lot bad 36 (by omega)
  have l := acc_le_all (lot := lot) (bad := bad) (n := n) (by omega) h3.2 h2.1 h2.2 (c.toNat + 1)
  obtain ⟨g, u, v, a1, a2, a3, a4, a5, a6, a7⟩ := fr_two (x := acc lot bad n (c.toNat + 1)) (y := ofZ lot bad) (by omega) (by omega)
  exact ⟨g, u, v, a1, a2, a3, a4, ⟨a5.1, by omega⟩, ⟨a6.1, by omega⟩, a7⟩

theorem enB_iff {lot good bad l1 l2 m1 m2 k d a1 a2 b1 b2 ga gb : Int} (h1 : 0 < ga) (h2 : (acc lot good k (d.toNat + 1) : Int) = ga * a1) (h3 : (ofZ lot good : Int) = ga * a2) (h4 : 0 < gb) (h5 : (acc lot bad k (d.toNat + 1) : Int) = gb * b1) (h6 : (ofZ lot bad : Int) = gb * b2) (hk : 0 ≤ k) :
    (!decide (a1 * l2 < l1 * a2) && !decide (m1 * b2 < b1 * m2)) = enB lot good bad l1 l2 m1 m2 k.toNat d.toNat := by
  unfold enB
  rw [Int.toNat_of_nonneg hk]
  congr 1
  · rw [Bool.eq_iff_iff]; simp only [Bool.not_eq_true', decide_eq_false_iff_not, decide_eq_true_eq]
    rw [cross_l h1 h2 h3]; omega
  · rw [Bool.eq_iff_iff]; simp only [Bool.not_eq_true', decide_eq_false_iff_not, decide_eq_true_eq]
    rw [cross_r h4 h5 h6]; omega

theorem first_law (J : CallF) (K : Kn3 J) (hJ : ∀ a h, J 5 a h = none) (x0 x1 x2 y0 y1 z0 z1 z2 z3 : Int) : CallsTo tbl J 5 [.agg [G x0, G x1, G x2], .agg [G y0, G y1], .agg [G z0, G z1, G z2, G z3]] e0 (.bool true, [], false) := by
  have hl := lotZ_in x0
  obtain ⟨lot, e1⟩ : ∃ lot, lotZ x0 = lot := ⟨_, rfl⟩
  rw [e1] at hl
  obtain ⟨good, e2⟩ : ∃ good, mdZ x1 (lot + 1) = good := ⟨_, rfl⟩
  obtain ⟨bad, e3⟩ : ∃ bad, mdZ x2 (lot + 1) = bad := ⟨_, rfl⟩
  obtain ⟨den, e4⟩ : ∃ den, 1 + mdZ z0 1000 = den := ⟨_, rfl⟩
  obtain ⟨over, e5⟩ : ∃ over, 1 + mdZ z2 1000 = over := ⟨_, rfl⟩
  have q0 := mdZ_lo x1 (show 0 < lot + 1 by omega)
  have q1 := mdZ_hi x1 (show 0 < lot + 1 by omega)
  have q2 := mdZ_lo x2 (show 0 < lot + 1 by omega)
  have q3 := mdZ_hi x2 (show 0 < lot + 1 by omega)
  have q4 := mdZ_lo z0 (show (0 : Int) < 1000 by omega)
  have q5 := mdZ_hi z0 (show (0 : Int) < 1000 by omega)
  have q6 := mdZ_lo z2 (show (0 : Int) < 1000 by omega)
  have q7 := mdZ_hi z2 (show (0 : Int) < 1000 by omega)
  obtain ⟨t1, e6⟩ : ∃ t1, mdZ z1 (den + 1) = t1 := ⟨_, rfl⟩
  obtain ⟨t3, e7⟩ : ∃ t3, mdZ z3 (over + 1) = t3 := ⟨_, rfl⟩
  have q8 := mdZ_lo z1 (show 0 < den + 1 by omega)
  have q9 := mdZ_hi z1 (show 0 < den + 1 by omega)
  have q10 := mdZ_lo z3 (show 0 < over + 1 by omega)
  have q11 := mdZ_hi z3 (show 0 < over + 1 by omega)
  obtain ⟨k, e10⟩ : ∃ k, 1 + mdZ y0 lot = k := ⟨_, rfl⟩
  have q12 := mdZ_lo y0 (show 0 < lot by omega)
  have q13 := mdZ_hi y0 (show 0 < lot by omega)
  obtain ⟨d, e11⟩ : ∃ d, mdZ y1 k = d := ⟨_, rfl⟩
  have q14 := mdZ_lo y1 (show 0 < k by omega)
  have q15 := mdZ_hi y1 (show 0 < k by omega)
  rw [e2] at q0 q1; rw [e3] at q2 q3; rw [e6] at q8 q9; rw [e7] at q10 q11; rw [e11] at q14 q15
  obtain ⟨gl, l1, l2, u1, u2, u3, u4, u5, u6, u7⟩ := fr_two (x := t1) (y := den) (by omega) (by omega)
  obtain ⟨gm, m1, m2, v1, v2, v3, v4, v5, v6, v7⟩ := fr_two (x := t3) (y := over) (by omega) (by omega)
  have d1 : l1 ≤ l2 := by
    have : gl * l1 ≤ gl * l2 := by omega
    exact Int.le_of_mul_le_mul_left this u1
  have d2 : m1 ≤ m2 := by
    have : gm * m1 ≤ gm * m2 := by omega
    exact Int.le_of_mul_le_mul_left this v1
  obtain ⟨ga, a1, a2, w1, w2, w3, w4, w5⟩ := fr_acc (lot := lot) (bad := good) (n := k) (c := d) hl ⟨by omega, by omega⟩ ⟨by omega, by omega⟩
  obtain ⟨gb, b1, b2, y1', y2', y3', y4', y5'⟩ := fr_acc (lot := lot) (bad := bad) (n := k) (c := d) hl ⟨by omega, by omega⟩ ⟨by omega, by omega⟩
  have on : planOn lot good bad l1 l2 m1 m2 := ⟨⟨hl, by omega, by omega⟩, ⟨hl, by omega, by omega⟩, ⟨by omega, by omega, u7⟩, ⟨by omega, by omega, v7⟩⟩
  have hen := enB_iff (l1 := l1) (l2 := l2) (m1 := m1) (m2 := m2) w1 w2 w3 y1' y2' y3' (by omega)
  have hv : planV lot good bad l1 l2 m1 m2 = .tup [G (planN (planR lot good bad l1 l2 m1 m2)), G (planC (planR lot good bad l1 l2 m1 m2)), G (planE (planR lot good bad l1 l2 m1 m2))] := by unfold planV; rw [if_pos on]
  have H : H5 x0 x1 x2 y0 y1 z0 z1 z2 z3 lot good bad den over t1 t3 l1 l2 m1 m2 k d _ _ _ a1 a2 b1 b2 _ _ := ⟨e1, e2, e3, e4, e5, e6, e7, u4, v4, e10, e11, hv, w4, y4', rfl, rfl, hl, ⟨by omega, by omega⟩, ⟨by omega, by omega⟩, ⟨by omega, by omega⟩, ⟨by omega, by omega⟩, ⟨by omega, by omega⟩, ⟨by omega, by omega⟩, ⟨by omega, by omega, by omega, by omega⟩, ⟨by omega, by omega, by omega, by omega⟩, ⟨by omega, by omega⟩, ⟨by omega, by omega⟩, w5, y5'⟩
  refine Tr.fnv (cf := c5) (e := .ret) (s := T.set (T.set (T.set .leaf [] (.agg [G x0, G x1, G x2])) [false] (.agg [G y0, G y1])) [true] (.agg [G z0, G z1, G z2, G z3])) (by decide) rfl (hJ _ _) rfl rfl rfl (by simp) ?_
  refine Tr.post (Q := (fun s h => s.get [true, true] = .bool true)) (fun s h q => by simp [c5, q]) ?_
  refine Tr.seq (f5_0 J K H) (Tr.seq (f5_1 J K H) (Tr.seq (f5_2 J K H) (Tr.seq (f5_3 J K H) (Tr.seq (f5_4 J K H) (Tr.seq (f5_5 J K H) (Tr.seq (f5_6 J K H) (Tr.seq (f5_7 J K H) (Tr.seq (f5_8 J K H) (Tr.seq (f5_9 J K H) (Tr.seq (f5_10 J K H) (Tr.seq (f5_11 J K H) ?_)))))))))))
  cases hr : planR lot good bad l1 l2 m1 m2 with
  | none =>
    have := fOut_none hr k.toNat d.toNat (by omega) (by omega) (by omega)
    rw [this] at hen
    exact Tr.seq_out (f5a_12 J K rfl hen) (by simp)
  | some x =>
    obtain ⟨n, c⟩ := x
    obtain ⟨r1, r2, r3, r4, r5⟩ := fOut_some hr
    obtain ⟨gu, p1, p2, s1, s2, s3, s4, s5⟩ := fr_acc (lot := lot) (bad := good) (n := n) (c := c) hl ⟨by omega, by omega⟩ ⟨by omega, by omega⟩
    obtain ⟨gv, o1, o2, z1', z2', z3', z4', z5'⟩ := fr_acc (lot := lot) (bad := bad) (n := n) (c := c) hl ⟨by omega, by omega⟩ ⟨by omega, by omega⟩
    have hen2 := enB_iff (l1 := l1) (l2 := l2) (m1 := m1) (m2 := m2) s1 s2 s3 z1' z2' z3' (by omega)
    simp only [Int.toNat_natCast] at hen2
    rw [r4, Bool.and_eq_true, Bool.not_eq_true', Bool.not_eq_true'] at hen2
    have fin : (!decide (a1 * l2 < l1 * a2) && !decide (m1 * b2 < b1 * m2)) = false ∨ (n : Int) < k ∨ ((n : Int) = k ∧ (c : Int) ≤ d) := by
      rw [hen]
      by_cases h1 : (n : Int) < k
      · exact .inr (.inl h1)
      · by_cases h2 : (n : Int) = k ∧ (c : Int) ≤ d
        · exact .inr (.inr h2)
        · exact .inl (r5 k.toNat d.toNat (by omega) (by omega) (by omega))
    have Hb : H5b lot good bad l1 l2 m1 m2 k d n c p1 p2 o1 o2 _ _ := ⟨s4, z4', hen2.1, hen2.2, hl, ⟨by omega, by omega⟩, ⟨by omega, by omega⟩, ⟨by omega, by omega, by omega, by omega⟩, ⟨by omega, by omega, by omega, by omega⟩, ⟨by omega, by omega⟩, ⟨by omega, by omega⟩, s5, z5', fin⟩
    exact Tr.seq (f5b_12 J K Hb) (Tr.seq (f5b_13 J K Hb) (Tr.seq (f5b_14 J K Hb) (Tr.seq (f5b_15 J K Hb) (Tr.seq (f5b_16 J K Hb) Tr.ret))))

theorem first_ok (x0 x1 x2 y0 y1 z0 z1 z2 z3 : Int) : CallsTo tbl I23 5 [.agg [G x0, G x1, G x2], .agg [G y0, G y1], .agg [G z0, G z1, G z2, G z3]] e0 (.bool true, [], false) := first_law I23 kn23'' (fun _ _ => rfl) _ _ _ _ _ _ _ _ _

end Go.Proofs.Ytlkgpcfhpeilhaa.Ev
