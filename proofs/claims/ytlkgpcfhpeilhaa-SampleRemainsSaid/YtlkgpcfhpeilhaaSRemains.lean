/-
  SampleRemains answers true at any four integers, as the evaluator runs it. No condition.
-/
import Derived.Test.YtlkgpcfhpeilhaaSLeft
set_option linter.unusedVariables false
set_option linter.unusedSimpArgs false
namespace Go.Proofs.Ytlkgpcfhpeilhaa.Ev
open Go Go.AEv

attribute [local simp] evFunc initS evOps_c evTrim_c evSkip_c evExit_c evRet_c evSeq_c evCond_c evBlock_c evDraw_c runOps_n runOps_c exec_n exec_g pure1_c act AOpd.ev T.get T.set T.put evBin evUn forceT_eq forceV_eq forceL_eq evRess evRes one keep runFP_n runFP_c app_none AV.flats AV.flat

/-! ### The greatest fraction of a list -/
structure BP (U V : Nat → Int) (m : Nat) (B : Best) : Prop where
  lt : B.a < m
  eu : B.u = U B.a
  ev : B.v = V B.a
  le : ∀ b, b < m → U b * B.v ≤ B.u * V b
  ls : ∀ b, b < B.a → U b * B.v < B.u * V b

theorem bst_bp {U V : Nat → Int} {M : Nat} (h0 : U 0 = 0) (h1 : V 0 = 1) (hV : ∀ b, b < M → 0 < V b) : ∀ m, m + 1 ≤ M → BP U V (m + 1) (bst U V (m + 1))
  | 0, _ => by
    have e : bst U V 1 = ⟨0, 1, 0⟩ := by
      show (if (0 : Int) * V 0 < U 0 * 1 then _ else _) = _
      rw [h0, h1, if_neg (by decide)]; rfl
    rw [e]
    exact ⟨by simp, h0.symm, h1.symm, fun b hb => by obtain rfl : b = 0 := by omega
                                                     rw [h0, h1]; decide, fun b hb => by simp at hb⟩
  | m + 1, hm => by
    have ih := bst_bp h0 h1 hV m (by omega)
    obtain ⟨i1, i2, i3, i4, i5⟩ := ih
    rw [show bst U V (m + 1 + 1) = if (bst U V (m + 1)).u * V (m + 1) < U (m + 1) * (bst U V (m + 1)).v then ⟨U (m + 1), V (m + 1), m + 1⟩ else bst U V (m + 1) from rfl]
    have hv : 0 < (bst U V (m + 1)).v := by rw [i3]; exact hV _ (by omega)
    generalize bst U V (m + 1) = B at *
    obtain ⟨u, v, a⟩ := B
    simp only at *
    by_cases hx : u * V (m + 1) < U (m + 1) * v
    · rw [if_pos hx]
      have key : ∀ b, b < m + 1 → U b * V (m + 1) < U (m + 1) * V b := fun b hb => by
        have q1 := Int.mul_le_mul_of_nonneg_right (i4 b hb) (Int.le_of_lt (hV (m + 1) (by omega)))
        have q2 := Int.mul_lt_mul_of_pos_right hx (hV b (by omega))
        have e1 : U b * v * V (m + 1) = v * (U b * V (m + 1)) := by rw [Int.mul_comm (U b), Int.mul_assoc]
        have e2 : u * V b * V (m + 1) = u * V (m + 1) * V b := Int.mul_right_comm _ _ _
        have e3 : U (m + 1) * v * V b = v * (U (m + 1) * V b) := by rw [Int.mul_comm (U (m + 1)), Int.mul_assoc]
        rw [e1, e2] at q1
        rw [e3] at q2
        exact Int.lt_of_mul_lt_mul_left (Int.lt_of_le_of_lt q1 q2) (Int.le_of_lt hv)
      exact ⟨by simp, rfl, rfl, fun b hb => by
        by_cases hbm : b = m + 1
        · subst hbm; exact Int.le_refl _
        · exact Int.le_of_lt (key b (by omega)), fun b hb => key b hb⟩
    · rw [if_neg hx]
      exact ⟨by simp only; omega, i2, i3, fun b hb => by
        by_cases hbm : b = m + 1
        · subst hbm; exact Int.not_lt.1 hx
        · exact i4 b (by omega), i5⟩

theorem fr_nil (y : Int) (h : 0 < y) : fr 0 y = .agg [G 0, G 1] := by
  obtain ⟨g, u, v, a1, a2, a3, a4, a5, a6, a7⟩ := fr_two (x := 0) (y := y) (by omega) h
  have hu : u = 0 := by omega
  subst hu
  simp only [Int.toNat_zero, Nat.gcd_zero_left] at a7
  rw [a4, show v = 1 by omega]
theorem lUV0 (lot n c : Int) (h : 0 ≤ lot) : lU lot n c 0 = 0 ∧ lV lot n c 0 = 1 := by
  have e := fr_l lot n c 0
  have e0 : lft lot ((0 : Nat) : Int) n (c.toNat + 1) = 0 := by
    have := lft_over lot ((0 : Nat) : Int) n 0 (by omega) (c.toNat + 1)
    rw [Nat.zero_add] at this
    rw [this]; rfl
  rw [e0, fr_nil _ (by have := ofZ_pos (n := lot) (k := ((0 : Nat) : Int)) (by omega) (by omega); omega)] at e
  simp only [AV.agg.injEq, List.cons.injEq, AV.int.injEq, and_true, true_and] at e
  exact ⟨e.1.symm, e.2.symm⟩

/-! ### The law -/
structure H10 (x0 x1 x2 y lot n c : Int) (B a : Nat) (u v p q : Int) : Prop where
  e1 : lotZ x0 = lot
  e2 : nZ x0 x1 = n
  e3 : cZ x0 x1 x2 = c
  e4 : mdZ y (lot + 1) = B
  e5 : leftB lot n c = ⟨u, v, a⟩
  e6 : fr (lft lot a n (c.toNat + 1)) (ofZ lot a) = .agg [G u, G v]
  e7 : fr (lft lot B n (c.toNat + 1)) (ofZ lot B) = .agg [G p, G q]
  r1 : 1 ≤ lot ∧ lot ≤ 36
  r2 : 1 ≤ n ∧ n ≤ lot
  r3 : 0 ≤ c ∧ c < n
  r4 : (B : Int) ≤ lot
  r5 : (a : Int) ≤ lot
  r6 : vOk u v
  r7 : vOk p q
  f1 : decide (u * q < p * v) = false
  f2 : (p = u ∧ q = v ∧ a ≤ B) ∨ p ≠ u ∨ (p = u ∧ q ≠ v)
  f3 : n ≠ lot ∨ (n = lot ∧ u = 0 ∧ v = 1)

section
variable {x0 x1 x2 y lot n c : Int} {B a : Nat} {u v p q : Int}
theorem f10_0 (J : CallF) (K : Kn5 J) (H : H10 x0 x1 x2 y lot n c B a u v p q) : Tr tbl J c10_o0 (fun s h => s = T.set (T.set .leaf [] (.agg [G x0, G x1, G x2])) [false] (G y) ∧ h = ⟨e0.get, 0, []⟩) .normal (fun s h => s.get [false] = G y ∧ s.get [true] = .ptr 0 0 3 ∧ h = ⟨e0.get, 0, [.cells 0 3 [G x0, G x1, G x2]]⟩) := Tr.region fun s h hp => by
  obtain ⟨rfl, rfl⟩ := hp
  obtain ⟨e1, e2, e3, e4, e5, e6, e7, r1, r2, r3, r4, r5, r6, r7, f1, f2, f3⟩ := H
  have r6' := r6
  have r7' := r7
  obtain ⟨w1, w2, w3⟩ := r6
  obtain ⟨w4, w5, w6⟩ := r7
  simp (disch := first | omega | exact getEq rfl | exact getO0) [c10_o0, came_some, goI, List.getElem?_cons_zero, List.getElem?_cons_succ, kn, keep, frameOf, Heap.size, Heap.get, Eff.app, Heap.setOwn, putAt, AV.cells, fillA, loadA, takeA, mk, Eff.isAll, Eff.isNone, Eff.commutes, Eff.spares, okPair, apart, eqAgg, fits, LK.fits, allEq, aveq, eqk, mmA, beqT, wrapI, idxI, tdivI, tmodI, decT, decF, ibT, ibF, inT, inF, evScope_c, if_pos, if_neg]
theorem f10_1 (J : CallF) (K : Kn5 J) (H : H10 x0 x1 x2 y lot n c B a u v p q) : Tr tbl J c10_o1 (fun s h => s.get [false] = G y ∧ s.get [true] = .ptr 0 0 3 ∧ h = ⟨e0.get, 0, [.cells 0 3 [G x0, G x1, G x2]]⟩) .normal (fun s h => s.get [false] = G y ∧ s.get [false, true] = G lot ∧ s.get [true, true] = G n ∧ s.get [false, false, false] = G c ∧ h = ⟨e0.get, 0, [.cells 0 3 [G x0, G x1, G x2]]⟩) := Tr.region fun s h hp => by
  obtain ⟨g0, g1, rfl⟩ := hp
  obtain ⟨e1, e2, e3, e4, e5, e6, e7, r1, r2, r3, r4, r5, r6, r7, f1, f2, f3⟩ := H
  have r6' := r6
  have r7' := r7
  obtain ⟨w1, w2, w3⟩ := r6
  obtain ⟨w4, w5, w6⟩ := r7
  simp (disch := first | omega | exact getEq rfl | exact getO0) [c10_o1, came_some, goI, List.getElem?_cons_zero, List.getElem?_cons_succ, kn, keep, frameOf, Heap.size, Heap.get, Eff.app, Heap.setOwn, putAt, AV.cells, fillA, loadA, takeA, mk, Eff.isAll, Eff.isNone, Eff.commutes, Eff.spares, okPair, apart, eqAgg, fits, LK.fits, allEq, aveq, eqk, mmA, beqT, wrapI, idxI, tdivI, tmodI, decT, decF, ibT, ibF, inT, inF, evScope_c, if_pos, if_neg, g0, g1, K.k22, e1, e2, e3]
theorem f10_2 (J : CallF) (K : Kn5 J) (H : H10 x0 x1 x2 y lot n c B a u v p q) : Tr tbl J c10_o2 (fun s h => s.get [false] = G y ∧ s.get [false, true] = G lot ∧ s.get [true, true] = G n ∧ s.get [false, false, false] = G c ∧ h = ⟨e0.get, 0, [.cells 0 3 [G x0, G x1, G x2]]⟩) .normal (fun s h => s.get [false] = G B ∧ s.get [false, true] = G lot ∧ s.get [true, true] = G n ∧ s.get [false, false, false] = G c ∧ h = ⟨e0.get, 0, [.cells 0 3 [G x0, G x1, G x2]]⟩) := Tr.region fun s h hp => by
  obtain ⟨g0, g1, g2, g3, rfl⟩ := hp
  obtain ⟨e1, e2, e3, e4, e5, e6, e7, r1, r2, r3, r4, r5, r6, r7, f1, f2, f3⟩ := H
  have r6' := r6
  have r7' := r7
  obtain ⟨w1, w2, w3⟩ := r6
  obtain ⟨w4, w5, w6⟩ := r7
  simp (disch := first | omega | exact getEq rfl | exact getO0) [c10_o2, came_some, goI, List.getElem?_cons_zero, List.getElem?_cons_succ, kn, keep, frameOf, Heap.size, Heap.get, Eff.app, Heap.setOwn, putAt, AV.cells, fillA, loadA, takeA, mk, Eff.isAll, Eff.isNone, Eff.commutes, Eff.spares, okPair, apart, eqAgg, fits, LK.fits, allEq, aveq, eqk, mmA, beqT, wrapI, idxI, tdivI, tmodI, decT, decF, ibT, ibF, inT, inF, evScope_c, if_pos, if_neg, g0, g1, g2, g3, K.k24, e4]
theorem f10_3 (J : CallF) (K : Kn5 J) (H : H10 x0 x1 x2 y lot n c B a u v p q) : Tr tbl J c10_o3 (fun s h => s.get [false] = G B ∧ s.get [false, true] = G lot ∧ s.get [true, true] = G n ∧ s.get [false, false, false] = G c ∧ h = ⟨e0.get, 0, [.cells 0 3 [G x0, G x1, G x2]]⟩) .normal (fun s h => s.get [false] = G B ∧ s.get [false, true] = G lot ∧ s.get [true, true] = G n ∧ s.get [false, false, false] = G c ∧ s.get [true, false, false] = .ptr 1 0 2 ∧ s.get [false, true, false] = G a ∧ s.get [true, true, false] = G 0 ∧ h = ⟨e0.get, 0, [.cells 0 3 [G x0, G x1, G x2], .cells 0 2 [G u, G v]]⟩) := Tr.region fun s h hp => by
  obtain ⟨g0, g1, g2, g3, rfl⟩ := hp
  obtain ⟨e1, e2, e3, e4, e5, e6, e7, r1, r2, r3, r4, r5, r6, r7, f1, f2, f3⟩ := H
  have r6' := r6
  have r7' := r7
  obtain ⟨w1, w2, w3⟩ := r6
  obtain ⟨w4, w5, w6⟩ := r7
  simp (disch := first | omega | exact getEq rfl | exact getO0) [c10_o3, came_some, goI, List.getElem?_cons_zero, List.getElem?_cons_succ, kn, keep, frameOf, Heap.size, Heap.get, Eff.app, Heap.setOwn, putAt, AV.cells, fillA, loadA, takeA, mk, Eff.isAll, Eff.isNone, Eff.commutes, Eff.spares, okPair, apart, eqAgg, fits, LK.fits, allEq, aveq, eqk, mmA, beqT, wrapI, idxI, tdivI, tmodI, decT, decF, ibT, ibF, inT, inF, evScope_c, if_pos, if_neg, g0, g1, g2, g3, K.k36, e5]
theorem f10_4 (J : CallF) (K : Kn5 J) (H : H10 x0 x1 x2 y lot n c B a u v p q) : Tr tbl J (.seq c10_o4 (.cond (.s [false, true, false, false, true]) (.seq c10_o5 .ret) .skip)) (fun s h => s.get [false] = G B ∧ s.get [false, true] = G lot ∧ s.get [true, true] = G n ∧ s.get [false, false, false] = G c ∧ s.get [true, false, false] = .ptr 1 0 2 ∧ s.get [false, true, false] = G a ∧ s.get [true, true, false] = G 0 ∧ h = ⟨e0.get, 0, [.cells 0 3 [G x0, G x1, G x2], .cells 0 2 [G u, G v]]⟩) .normal (fun s h => s.get [false] = G B ∧ s.get [false, true] = G lot ∧ s.get [true, true] = G n ∧ s.get [false, false, false] = G c ∧ s.get [true, false, false] = .ptr 1 0 2 ∧ s.get [false, true, false] = G a ∧ h = ⟨e0.get, 0, [.cells 0 3 [G x0, G x1, G x2], .cells 0 2 [G u, G v]]⟩) := Tr.region fun s h hp => by
  obtain ⟨g0, g1, g2, g3, g4, g5, g6, rfl⟩ := hp
  obtain ⟨e1, e2, e3, e4, e5, e6, e7, r1, r2, r3, r4, r5, r6, r7, f1, f2, f3⟩ := H
  have r6' := r6
  have r7' := r7
  obtain ⟨w1, w2, w3⟩ := r6
  obtain ⟨w4, w5, w6⟩ := r7
  simp (disch := first | omega | exact getEq rfl | exact getO0) [c10_o4, c10_o5, came_some, goI, List.getElem?_cons_zero, List.getElem?_cons_succ, kn, keep, frameOf, Heap.size, Heap.get, Eff.app, Heap.setOwn, putAt, AV.cells, fillA, loadA, takeA, mk, Eff.isAll, Eff.isNone, Eff.commutes, Eff.spares, okPair, apart, eqAgg, fits, LK.fits, allEq, aveq, eqk, mmA, beqT, wrapI, idxI, tdivI, tmodI, decT, decF, ibT, ibF, inT, inF, evScope_c, if_pos, if_neg, g0, g1, g2, g3, g4, g5, g6, K.k26, r6']
theorem f10_5 (J : CallF) (K : Kn5 J) (H : H10 x0 x1 x2 y lot n c B a u v p q) : Tr tbl J c10_o6 (fun s h => s.get [false] = G B ∧ s.get [false, true] = G lot ∧ s.get [true, true] = G n ∧ s.get [false, false, false] = G c ∧ s.get [true, false, false] = .ptr 1 0 2 ∧ s.get [false, true, false] = G a ∧ h = ⟨e0.get, 0, [.cells 0 3 [G x0, G x1, G x2], .cells 0 2 [G u, G v]]⟩) .normal (fun s h => s.get [false] = G B ∧ s.get [false, true] = G lot ∧ s.get [true, true] = G n ∧ s.get [false, false, false] = G c ∧ s.get [true, false, false] = .ptr 1 0 2 ∧ s.get [false, true, false] = G a ∧ s.get [false, false, true] = .ptr 2 0 2 ∧ h = ⟨e0.get, 0, [.cells 0 3 [G x0, G x1, G x2], .cells 0 2 [G u, G v], .cells 0 2 [G u, G v]]⟩) := Tr.region fun s h hp => by
  obtain ⟨g0, g1, g2, g3, g4, g5, rfl⟩ := hp
  obtain ⟨e1, e2, e3, e4, e5, e6, e7, r1, r2, r3, r4, r5, r6, r7, f1, f2, f3⟩ := H
  have r6' := r6
  have r7' := r7
  obtain ⟨w1, w2, w3⟩ := r6
  obtain ⟨w4, w5, w6⟩ := r7
  have l1 := lft_in (lot := lot) (bad := a) (n := n) r2.1 r2.2 r1.2 r5 (c.toNat + 1)
  have l2 := ofZ_le lot a 36 (by omega)
  have l3 := ofZ_pos (n := lot) (k := (a : Int)) (by omega) r5
  simp (disch := first | omega | exact getEq rfl | exact getO0) [c10_o6, came_some, goI, List.getElem?_cons_zero, List.getElem?_cons_succ, kn, keep, frameOf, Heap.size, Heap.get, Eff.app, Heap.setOwn, putAt, AV.cells, fillA, loadA, takeA, mk, Eff.isAll, Eff.isNone, Eff.commutes, Eff.spares, okPair, apart, eqAgg, fits, LK.fits, allEq, aveq, eqk, mmA, beqT, wrapI, idxI, tdivI, tmodI, decT, decF, ibT, ibF, inT, inF, evScope_c, if_pos, if_neg, g0, g1, g2, g3, g4, g5, K.k37, K.k29, K.k25, e6]
theorem f10_6 (J : CallF) (K : Kn5 J) (H : H10 x0 x1 x2 y lot n c B a u v p q) : Tr tbl J c10_o7 (fun s h => s.get [false] = G B ∧ s.get [false, true] = G lot ∧ s.get [true, true] = G n ∧ s.get [false, false, false] = G c ∧ s.get [true, false, false] = .ptr 1 0 2 ∧ s.get [false, true, false] = G a ∧ s.get [false, false, true] = .ptr 2 0 2 ∧ h = ⟨e0.get, 0, [.cells 0 3 [G x0, G x1, G x2], .cells 0 2 [G u, G v], .cells 0 2 [G u, G v]]⟩) .normal (fun s h => s.get [false] = G B ∧ s.get [false, true] = G lot ∧ s.get [true, true] = G n ∧ s.get [false, false, false] = G c ∧ s.get [true, false, false] = .ptr 1 0 2 ∧ s.get [false, true, false] = G a ∧ s.get [false, false, true] = .ptr 2 0 2 ∧ s.get [true, false, true] = .ptr 3 0 2 ∧ h = ⟨e0.get, 0, [.cells 0 3 [G x0, G x1, G x2], .cells 0 2 [G u, G v], .cells 0 2 [G u, G v], .cells 0 2 [G p, G q]]⟩) := Tr.region fun s h hp => by
  obtain ⟨g0, g1, g2, g3, g4, g5, g6, rfl⟩ := hp
  obtain ⟨e1, e2, e3, e4, e5, e6, e7, r1, r2, r3, r4, r5, r6, r7, f1, f2, f3⟩ := H
  have r6' := r6
  have r7' := r7
  obtain ⟨w1, w2, w3⟩ := r6
  obtain ⟨w4, w5, w6⟩ := r7
  have l1 := lft_in (lot := lot) (bad := B) (n := n) r2.1 r2.2 r1.2 r4 (c.toNat + 1)
  have l2 := ofZ_le lot B 36 (by omega)
  have l3 := ofZ_pos (n := lot) (k := (B : Int)) (by omega) r4
  simp (disch := first | omega | exact getEq rfl | exact getO0) [c10_o7, came_some, goI, List.getElem?_cons_zero, List.getElem?_cons_succ, kn, keep, frameOf, Heap.size, Heap.get, Eff.app, Heap.setOwn, putAt, AV.cells, fillA, loadA, takeA, mk, Eff.isAll, Eff.isNone, Eff.commutes, Eff.spares, okPair, apart, eqAgg, fits, LK.fits, allEq, aveq, eqk, mmA, beqT, wrapI, idxI, tdivI, tmodI, decT, decF, ibT, ibF, inT, inF, evScope_c, if_pos, if_neg, g0, g1, g2, g3, g4, g5, g6, K.k37, K.k29, K.k25, e7]
theorem f10_7 (J : CallF) (K : Kn5 J) (H : H10 x0 x1 x2 y lot n c B a u v p q) : Tr tbl J (.seq c10_o8 (.cond (.s [false, false, false, false, false, true]) (.seq c10_o9 .ret) .skip)) (fun s h => s.get [false] = G B ∧ s.get [false, true] = G lot ∧ s.get [true, true] = G n ∧ s.get [false, false, false] = G c ∧ s.get [true, false, false] = .ptr 1 0 2 ∧ s.get [false, true, false] = G a ∧ s.get [false, false, true] = .ptr 2 0 2 ∧ s.get [true, false, true] = .ptr 3 0 2 ∧ h = ⟨e0.get, 0, [.cells 0 3 [G x0, G x1, G x2], .cells 0 2 [G u, G v], .cells 0 2 [G u, G v], .cells 0 2 [G p, G q]]⟩) .normal (fun s h => s.get [false, true] = G lot ∧ s.get [true, true] = G n ∧ s.get [false, false, false] = G c ∧ s.get [true, false, false] = .ptr 1 0 2 ∧ h = ⟨e0.get, 0, [.cells 0 3 [G x0, G x1, G x2], .cells 0 2 [G u, G v], .cells 0 2 [G u, G v], .cells 0 2 [G p, G q]]⟩) := Tr.region fun s h hp => by
  obtain ⟨g0, g1, g2, g3, g4, g5, g6, g7, rfl⟩ := hp
  obtain ⟨e1, e2, e3, e4, e5, e6, e7, r1, r2, r3, r4, r5, r6, r7, f1, f2, f3⟩ := H
  have r6' := r6
  have r7' := r7
  obtain ⟨w1, w2, w3⟩ := r6
  obtain ⟨w4, w5, w6⟩ := r7
  rcases f2 with ⟨h1, h2, h3⟩ | h1 | ⟨h1, h2⟩ <;> rcases f3 with h4 | ⟨h4, h5, h6⟩ <;> simp (disch := first | omega | exact getEq rfl | exact getO0) [c10_o8, c10_o9, came_some, goI, List.getElem?_cons_zero, List.getElem?_cons_succ, kn, keep, frameOf, Heap.size, Heap.get, Eff.app, Heap.setOwn, putAt, AV.cells, fillA, loadA, takeA, mk, Eff.isAll, Eff.isNone, Eff.commutes, Eff.spares, okPair, apart, eqAgg, fits, LK.fits, allEq, aveq, eqk, mmA, beqT, wrapI, idxI, tdivI, tmodI, decT, decF, ibT, ibF, inT, inF, evScope_c, if_pos, if_neg, g0, g1, g2, g3, g4, g5, g6, g7, K.k27, f1]

theorem remains_more (J : CallF) (K : Kn5 J) (H : H10 x0 x1 x2 y lot n c B a u v p q) {u' v' : Int} {a' : Nat} (h1 : c + 1 < n → leftB lot n (c + 1) = ⟨u', v', a'⟩ ∧ vOk u' v' ∧ decide (u' * v < u * v') = false) (h : Heap) :
    Tr tbl J (.seq c10_o10 (.cond (.s [false, false, true, false, false, true]) (.seq c10_o11 (.seq c10_o12 (.cond (.s [true, false, false, true, true, true]) (.seq c10_o13 .ret) .skip))) .skip)) (fun s h => s.get [false, true] = G lot ∧ s.get [true, true] = G n ∧ s.get [false, false, false] = G c ∧ s.get [true, false, false] = .ptr 1 0 2 ∧ h = ⟨e0.get, 0, [.cells 0 3 [G x0, G x1, G x2], .cells 0 2 [G u, G v], .cells 0 2 [G u, G v], .cells 0 2 [G p, G q]]⟩) .normal (fun s h => True) := by
  obtain ⟨e1, e2, e3, e4, e5, e6, e7, r1, r2, r3, r4, r5, r6, r7, f1, f2, f3⟩ := H
  obtain ⟨w1, w2, w3⟩ := r6
  by_cases hc : c + 1 < n
  · obtain ⟨h2, h3, h4⟩ := h1 hc
    have h3' := h3
    obtain ⟨w4, w5, w6⟩ := h3'
    have q26 := fun h => K.k26 h u' v' h3
    have q36 := fun h => K.k36 h lot n (c + 1) r2.1 r2.2 r1.2 (by omega) hc
    rw [h2] at q36
    have t : Tr tbl J ((.seq c10_o10 (.cond (.s [false, false, true, false, false, true]) (.seq c10_o11 (.seq c10_o12 (.cond (.s [true, false, false, true, true, true]) (.seq c10_o13 .ret) .skip))) .skip))) (fun s h => s.get [false, true] = G lot ∧ s.get [true, true] = G n ∧ s.get [false, false, false] = G c ∧ s.get [true, false, false] = .ptr 1 0 2 ∧ h = ⟨e0.get, 0, [.cells 0 3 [G x0, G x1, G x2], .cells 0 2 [G u, G v], .cells 0 2 [G u, G v], .cells 0 2 [G p, G q]]⟩) .normal (fun s h => True) := Tr.region fun s h hp => by
      obtain ⟨g0, g1, g2, g3, rfl⟩ := hp
      simp (disch := first | omega | exact getEq rfl | exact getO0) [c10_o10, c10_o11, c10_o12, came_some, goI, List.getElem?_cons_zero, List.getElem?_cons_succ, kn, keep, frameOf, Heap.size, Heap.get, Eff.app, Heap.setOwn, putAt, AV.cells, fillA, loadA, takeA, mk, Eff.isAll, Eff.isNone, Eff.commutes, Eff.spares, okPair, apart, eqAgg, fits, LK.fits, allEq, aveq, eqk, mmA, beqT, wrapI, idxI, tdivI, tmodI, decT, decF, ibT, ibF, inT, inF, evScope_c, if_pos, if_neg, g0, g1, g2, g3, q36, q26, K.k27, h4]
    exact t
  ·
    have t : Tr tbl J ((.seq c10_o10 (.cond (.s [false, false, true, false, false, true]) (.seq c10_o11 (.seq c10_o12 (.cond (.s [true, false, false, true, true, true]) (.seq c10_o13 .ret) .skip))) .skip))) (fun s h => s.get [false, true] = G lot ∧ s.get [true, true] = G n ∧ s.get [false, false, false] = G c ∧ s.get [true, false, false] = .ptr 1 0 2 ∧ h = ⟨e0.get, 0, [.cells 0 3 [G x0, G x1, G x2], .cells 0 2 [G u, G v], .cells 0 2 [G u, G v], .cells 0 2 [G p, G q]]⟩) .normal (fun s h => True) := Tr.region fun s h hp => by
      obtain ⟨g0, g1, g2, g3, rfl⟩ := hp
      simp (disch := first | omega | exact getEq rfl | exact getO0) [c10_o10, came_some, goI, List.getElem?_cons_zero, List.getElem?_cons_succ, kn, keep, frameOf, Heap.size, Heap.get, Eff.app, Heap.setOwn, putAt, AV.cells, fillA, loadA, takeA, mk, Eff.isAll, Eff.isNone, Eff.commutes, Eff.spares, okPair, apart, eqAgg, fits, LK.fits, allEq, aveq, eqk, mmA, beqT, wrapI, idxI, tdivI, tmodI, decT, decF, ibT, ibF, inT, inF, evScope_c, if_pos, if_neg, g0, g1, g2, g3]
    exact t

theorem remains_all (J : CallF) (K : Kn5 J) (hJ : ∀ a h, J 10 a h = none) (H : H10 x0 x1 x2 y lot n c B a u v p q) {u' v' : Int} {a' : Nat} (h1 : c + 1 < n → leftB lot n (c + 1) = ⟨u', v', a'⟩ ∧ vOk u' v' ∧ decide (u' * v < u * v') = false) :
    CallsTo tbl J 10 [.agg [G x0, G x1, G x2], G y] e0 (.bool true, [], false) := by
  refine Tr.fnv (cf := c10) (e := .ret) (s := T.set (T.set .leaf [] (.agg [G x0, G x1, G x2])) [false] (G y)) (by decide) rfl (hJ _ _) rfl rfl rfl (by simp) ?_
  refine Tr.post (Q := (fun s h => s.get [true, false] = .bool true)) (fun s h q => by simp [c10, q]) ?_
  have t8 : Tr tbl J ((.seq c10_o14 .ret)) (fun s h => True) .ret (fun s h => s.get [true, false] = .bool true) := Tr.region fun s h hp => by
    simp (disch := first | omega | exact getEq rfl | exact getO0) [c10_o14, came_some, goI, List.getElem?_cons_zero, List.getElem?_cons_succ, kn, keep, frameOf, Heap.size, Heap.get, Eff.app, Heap.setOwn, putAt, AV.cells, fillA, loadA, takeA, mk, Eff.isAll, Eff.isNone, Eff.commutes, Eff.spares, okPair, apart, eqAgg, fits, LK.fits, allEq, aveq, eqk, mmA, beqT, wrapI, idxI, tdivI, tmodI, decT, decF, ibT, ibF, inT, inF, evScope_c, if_pos, if_neg, K.k20]
  exact Tr.seq (f10_0 J K H) (Tr.seq (f10_1 J K H) (Tr.seq (f10_2 J K H) (Tr.seq (f10_3 J K H) (Tr.seq (f10_4 J K H) (Tr.seq (f10_5 J K H) (Tr.seq (f10_6 J K H) (Tr.seq (f10_7 J K H) (Tr.seq (remains_more J K H h1 e0) t8))))))))
end

theorem remains_law (J : CallF) (K : Kn5 J) (hJ : ∀ a h, J 10 a h = none) (x0 x1 x2 y : Int) : CallsTo tbl J 10 [.agg [G x0, G x1, G x2], G y] e0 (.bool true, [], false) := by
  have hl := lotZ_in x0
  have hn := nZ_in x0 x1
  have hc := cZ_in x0 x1 x2
  generalize e1 : lotZ x0 = lot at *
  generalize e2 : nZ x0 x1 = n at *
  generalize e3 : cZ x0 x1 x2 = c at *
  have m1 := mdZ_lo y (show 0 < lot + 1 by omega)
  have m2 := mdZ_hi y (show 0 < lot + 1 by omega)
  obtain ⟨B, e4⟩ : ∃ B : Nat, mdZ y (lot + 1) = B := ⟨(mdZ y (lot + 1)).toNat, by omega⟩
  have z0 := lUV0 lot n c (by omega)
  have pos : ∀ c' b : _, b < lot.toNat + 1 → 0 < lV lot n c' b := fun c' b hb => by
    obtain ⟨g, a1, a2, a3, a4⟩ := lUV (c := c') hl hn b (by omega)
    have := a4.2.1.1; omega
  have bp := bst_bp z0.1 z0.2 (pos c) lot.toNat (by omega)
  obtain ⟨⟨u, v, a⟩, e5⟩ : ∃ b, leftB lot n c = b := ⟨_, rfl⟩
  rw [show bst (lU lot n c) (lV lot n c) (lot.toNat + 1) = ⟨u, v, a⟩ from e5] at bp
  obtain ⟨b1, b2, b3, b4, b5⟩ := bp
  simp only at b1 b2 b3 b4 b5
  obtain ⟨g, a1, a2, a3, a4⟩ := lUV (c := c) hl hn a (by omega)
  obtain ⟨g', a1', a2', a3', a4'⟩ := lUV (c := c) hl hn B (by omega)
  rw [← b2] at a2 a4
  rw [← b3] at a3 a4
  have f3 : n ≠ lot ∨ (n = lot ∧ u = 0 ∧ v = 1) := by
    by_cases h : n = lot
    · right
      have e := fr_l lot n c a
      rw [h, lft_all, fr_nil _ (by have := ofZ_pos (n := lot) (k := (a : Int)) (by omega) (by omega); omega)] at e
      simp only [AV.agg.injEq, List.cons.injEq, AV.int.injEq, and_true, true_and] at e
      rw [b2, b3, h]
      exact ⟨rfl, e.1.symm, e.2.symm⟩
    · exact .inl h
  have H : H10 x0 x1 x2 y lot n c B a u v (lU lot n c B) (lV lot n c B) := by
    refine ⟨e1, e2, e3, e4, e5, by rw [fr_l, b2, b3], fr_l lot n c B, hl, hn, hc, by omega, by omega, a4, a4', decide_eq_false (Int.not_lt.2 (b4 B (by omega))), ?_, f3⟩
    by_cases h : lU lot n c B = u ∧ lV lot n c B = v
    · left
      refine ⟨h.1, h.2, ?_⟩
      by_cases hx : B < a
      · have := b5 B hx; rw [h.1, h.2] at this; omega
      · omega
    · right
      by_cases h1 : lU lot n c B = u
      · exact .inr ⟨h1, fun h2 => h ⟨h1, h2⟩⟩
      · exact .inl h1
  by_cases h : c + 1 < n
  · have z0' := lUV0 lot n (c + 1) (by omega)
    have bp' := bst_bp z0'.1 z0'.2 (pos (c + 1)) lot.toNat (by omega)
    obtain ⟨⟨u', v', a'⟩, e5'⟩ : ∃ b, leftB lot n (c + 1) = b := ⟨_, rfl⟩
    rw [show bst (lU lot n (c + 1)) (lV lot n (c + 1)) (lot.toNat + 1) = ⟨u', v', a'⟩ from e5'] at bp'
    obtain ⟨d1, d2, d3, d4, d5⟩ := bp'
    simp only at d1 d2 d3 d4 d5
    obtain ⟨k, k1, k2, k3, k4⟩ := lUV (c := c + 1) hl hn a' (by omega)
    rw [← d2, ← d3] at k4
    obtain ⟨l, l1, l2, l3, l4⟩ := lUV (c := c + 1) hl hn a (by omega)
    refine remains_all J K hJ H (u' := u') (v' := v') (a' := a') (fun _ => ⟨e5', k4, decide_eq_false (Int.not_lt.2 ?_)⟩)
    -- the same place, one more bad piece accepted
    have hup := lft_up (lot := lot) (bad := a) (n := n) (c.toNat + 1)
    rw [show c.toNat + 1 + 1 = (c + 1).toNat + 1 by omega] at hup
    have s1 : u * lV lot n (c + 1) a ≤ lU lot n (c + 1) a * v := by
      refine Int.not_lt.1 fun hh => ?_
      rw [cross2 l1 a1 l2 l3 a2 a3] at hh
      have : lft lot a n (c.toNat + 1) * (ofZ lot a : Int) ≤ lft lot a n ((c + 1).toNat + 1) * (ofZ lot a : Int) := Int.mul_le_mul_of_nonneg_right hup (by omega)
      omega
    have s2 := d4 a (by omega)
    have pv : 0 < lV lot n (c + 1) a := pos (c + 1) a (by omega)
    have pv1 : 0 < v := by have := a4.2.1.1; omega
    have pv2 : 0 < v' := by have := k4.2.1.1; omega
    generalize lU lot n (c + 1) a = P at *
    generalize lV lot n (c + 1) a = Q at *
    have t1 := Int.mul_le_mul_of_nonneg_right s1 (Int.le_of_lt pv2)
    have t2 := Int.mul_le_mul_of_nonneg_right s2 (Int.le_of_lt pv1)
    have x1 : u * Q * v' = Q * (u * v') := by rw [Int.mul_comm u Q, Int.mul_assoc]
    have x2 : P * v * v' = P * v' * v := Int.mul_right_comm _ _ _
    have x3 : u' * Q * v = Q * (u' * v) := by rw [Int.mul_comm u' Q, Int.mul_assoc]
    rw [x1, x2] at t1
    rw [x3] at t2
    exact Int.le_of_mul_le_mul_left (Int.le_trans t1 t2) pv
  · exact remains_all J K hJ H (u' := 0) (v' := 0) (a' := 0) (fun h' => absurd h' h)

theorem remains_ok (x0 x1 x2 y : Int) : CallsTo tbl I25 10 [.agg [G x0, G x1, G x2], G y] e0 (.bool true, [], false) := remains_law I25 kn25'' (fun _ _ => rfl) x0 x1 x2 y

end Go.Proofs.Ytlkgpcfhpeilhaa.Ev
