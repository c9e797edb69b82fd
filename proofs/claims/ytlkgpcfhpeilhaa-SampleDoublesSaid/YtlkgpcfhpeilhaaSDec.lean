/-
  What the reference's Decide answers, and its Fits of a good course. No condition.
-/
import Derived.Test.YtlkgpcfhpeilhaaSMerge
set_option linter.unusedVariables false
set_option linter.unusedSimpArgs false
namespace Go.Proofs.Ytlkgpcfhpeilhaa.Ev
open Go Go.AEv

attribute [local simp] evFunc initS evOps_c evTrim_c evSkip_c evExit_c evRet_c evSeq_c evCond_c evBlock_c evDraw_c runOps_n runOps_c exec_n exec_g pure1_c act AOpd.ev T.get T.set T.put evBin evUn forceT_eq forceV_eq forceL_eq evRess evRes one keep runFP_n runFP_c app_none AV.flats AV.flat

/-! ### Decide -/
def decZ (a r k : Int) : Int := if k ≤ a then 1 else if r ≤ k then -1 else 0
section
variable {bA bR nA vA nR vR : Nat} {k a r : Int} {j : Nat} {c1 c2 : List AV}
theorem c65_ok (J : CallF) (hJ : ∀ a h, J 65 a h = none) (h : Heap) (h2 : j < 1000) (h3 : j < nA) (h4 : j < nR) (g1 : h.get bA = .cells 1 vA c1) (g2 : h.get bR = .cells 1 vR c2) (x1 : c1[j]? = some (G a)) (x2 : c2[j]? = some (G r)) :
    CallsTo tbl J 65 [.agg [.slice bA 0 nA vA, .slice bR 0 nR vR], G ((j + 1 : Nat) : Int), G k] h (G (decZ a r k), [], false) := by
  have l1 := get_lt g1 (by simp)
  have l2 := get_lt g2 (by simp)
  refine Tr.fnv (cf := c65) (e := .ret) (s := T.set (T.set (T.set .leaf [] (.agg [.slice bA 0 nA vA, .slice bR 0 nR vR])) [false] (G ((j + 1 : Nat) : Int))) [true] (G k)) (by decide) rfl (hJ _ _) rfl rfl rfl (by simp) ?_
  refine Tr.post (Q := (fun s h => s.get [true, true] = G (decZ a r k))) (fun s h q => by simp [c65, q]) ?_
  by_cases hk : k ≤ a
  · have e : decZ a r k = 1 := by unfold decZ; rw [if_pos hk]
    rw [e]
    have t : Tr tbl J ((.seq c65_o0 (.seq c65_o1 (.cond (.s [true, true, true]) (.seq c65_o2 .ret) .skip)))) (fun s h' => s = T.set (T.set (T.set .leaf [] (.agg [.slice bA 0 nA vA, .slice bR 0 nR vR])) [false] (G ((j + 1 : Nat) : Int))) [true] (G k) ∧ h' = frameOf h) .ret (fun s h => s.get [true, true] = G 1) := Tr.region fun s h hp => by
      obtain ⟨rfl, rfl⟩ := hp
      simp (disch := first | omega | exact getEq rfl | exact getO0 | exact Nat.le_of_ble_eq_true rfl) [c65_o0, c65_o1, c65_o2, frameOf, came_some, goI, List.getElem?_cons_zero, List.getElem?_cons_succ, kn, keep, frameOf, size_mk, get_mk_lt, get_mk_ge, Eff.app, Heap.setOwn, putAt, AV.cells, fillA, loadA, takeA, mk, Eff.isAll, Eff.isNone, Eff.commutes, Eff.spares, okPair, apart, eqAgg, fits, LK.fits, allEq, aveq, eqk, mmA, beqT, wrapI, idxI, tdivI, tmodI, decT, decF, ibT, ibF, inT, inF, evScope_c, if_pos, if_neg, g1, x1]
    exact Tr.assoc (Tr.seq_out t (by simp))
  · by_cases hr : r ≤ k
    · have e : decZ a r k = -1 := by unfold decZ; rw [if_neg hk, if_pos hr]
      rw [e]
      have t : Tr tbl J ((.seq c65_o0 (.seq (.seq c65_o1 (.cond (.s [true, true, true]) (.seq c65_o2 .ret) .skip)) (.seq c65_o3 (.cond (.s [true, true, true, false]) (.seq c65_o4 .ret) .skip))))) (fun s h' => s = T.set (T.set (T.set .leaf [] (.agg [.slice bA 0 nA vA, .slice bR 0 nR vR])) [false] (G ((j + 1 : Nat) : Int))) [true] (G k) ∧ h' = frameOf h) .ret (fun s h => s.get [true, true] = G (-1)) := Tr.region fun s h hp => by
        obtain ⟨rfl, rfl⟩ := hp
        simp (disch := first | omega | exact getEq rfl | exact getO0 | exact Nat.le_of_ble_eq_true rfl) [c65_o0, c65_o1, c65_o3, c65_o4, frameOf, came_some, goI, List.getElem?_cons_zero, List.getElem?_cons_succ, kn, keep, frameOf, size_mk, get_mk_lt, get_mk_ge, Eff.app, Heap.setOwn, putAt, AV.cells, fillA, loadA, takeA, mk, Eff.isAll, Eff.isNone, Eff.commutes, Eff.spares, okPair, apart, eqAgg, fits, LK.fits, allEq, aveq, eqk, mmA, beqT, wrapI, idxI, tdivI, tmodI, decT, decF, ibT, ibF, inT, inF, evScope_c, if_pos, if_neg, g1, x1, g2, x2]
      exact Tr.assoc (Tr.assoc (Tr.seq_out (Tr.assoc' t) (by simp)))
    · have e : decZ a r k = 0 := by unfold decZ; rw [if_neg hk, if_neg hr]
      rw [e]
      have t : Tr tbl J ((.seq c65_o0 (.seq (.seq c65_o1 (.cond (.s [true, true, true]) (.seq c65_o2 .ret) .skip)) (.seq c65_o3 (.cond (.s [true, true, true, false]) (.seq c65_o4 .ret) .skip))))) (fun s h' => s = T.set (T.set (T.set .leaf [] (.agg [.slice bA 0 nA vA, .slice bR 0 nR vR])) [false] (G ((j + 1 : Nat) : Int))) [true] (G k) ∧ h' = frameOf h) .normal (fun s h => True) := Tr.region fun s h hp => by
        obtain ⟨rfl, rfl⟩ := hp
        simp (disch := first | omega | exact getEq rfl | exact getO0 | exact Nat.le_of_ble_eq_true rfl) [c65_o0, c65_o1, c65_o3, frameOf, came_some, goI, List.getElem?_cons_zero, List.getElem?_cons_succ, kn, keep, frameOf, size_mk, get_mk_lt, get_mk_ge, Eff.app, Heap.setOwn, putAt, AV.cells, fillA, loadA, takeA, mk, Eff.isAll, Eff.isNone, Eff.commutes, Eff.spares, okPair, apart, eqAgg, fits, LK.fits, allEq, aveq, eqk, mmA, beqT, wrapI, idxI, tdivI, tmodI, decT, decF, ibT, ibF, inT, inF, evScope_c, if_pos, if_neg, g1, x1, g2, x2]
      have t2 : Tr tbl J ((.seq c65_o5 .ret)) (fun s h => True) .ret (fun s h => s.get [true, true] = G 0) := Tr.region fun s h hp => by
        simp (disch := first | omega | exact getEq rfl | exact getO0 | exact Nat.le_of_ble_eq_true rfl) [c65_o5, came_some, goI, List.getElem?_cons_zero, List.getElem?_cons_succ, kn, keep, frameOf, Heap.size, Heap.get, Eff.app, Heap.setOwn, putAt, AV.cells, fillA, loadA, takeA, mk, Eff.isAll, Eff.isNone, Eff.commutes, Eff.spares, okPair, apart, eqAgg, fits, LK.fits, allEq, aveq, eqk, mmA, beqT, wrapI, idxI, tdivI, tmodI, decT, decF, ibT, ibF, inT, inF, evScope_c, if_pos, if_neg]
      exact Tr.app3 t t2

/-! ### Fits -/
variable {lot : Int} {A R : Nat → Int} {N : Nat}
structure FitH (lot : Int) (A R : Nat → Int) (N : Nat) : Prop where
  h1 : 1 ≤ N
  h2 : (N : Int) ≤ lot
  h3 : lot ≤ 36
  hi : ∀ i, i < N → -1 ≤ A i ∧ A i ≤ N + 1 ∧ -1 ≤ R i ∧ R i ≤ N + 1 ∧ A i < R i
  he : R (N - 1) = A (N - 1) + 1

theorem c40_ok (J : CallF) (hJ : ∀ a h, J 40 a h = none) (h : Heap) (H : FitH lot A R N) (m1 : h.get bA = .cells 1 N (zs A N)) (m2 : h.get bR = .cells 1 N (zs R N)) :
    CallsTo tbl J 40 [G lot, .agg [.slice bA 0 N N, .slice bR 0 N N]] h (.bool true, [], false) := by
  have l1 := get_lt m1 (by simp)
  have l2 := get_lt m2 (by simp)
  obtain ⟨h1, h2, h3, hi, he⟩ := H
  have x1 : ∀ i, i < N → (zs A N)[i]? = some (G (A i)) := fun i hN => by rw [zs_get, if_pos hN]
  have x2 : ∀ i, i < N → (zs R N)[i]? = some (G (R i)) := fun i hN => by rw [zs_get, if_pos hN]
  generalize zs A N = c1 at *
  generalize zs R N = c2 at *
  refine Tr.fnv (cf := c40) (e := .ret) (s := T.set (T.set .leaf [] (G lot)) [false] (.agg [.slice bA 0 N N, .slice bR 0 N N])) (by decide) rfl (hJ _ _) rfl rfl rfl (by simp) ?_
  refine Tr.post (Q := (fun s h => s.get [true, false] = .bool true)) (fun s h q => by simp [c40, q]) ?_
  have t0 : Tr tbl J ((.seq c40_o0 c40_o1)) (fun s h' => s = T.set (T.set .leaf [] (G lot)) [false] (.agg [.slice bA 0 N N, .slice bR 0 N N]) ∧ h' = frameOf h) .normal (fun s h' => s.get [] = G lot ∧ s.get [false, false] = .ptr h.size 0 2 ∧ s.get [false, true] = G N ∧ h' = ⟨h.get, h.size, [.cells 0 2 [.slice bA 0 N N, .slice bR 0 N N]]⟩) := Tr.region fun s h hp => by
    obtain ⟨rfl, rfl⟩ := hp
    simp (disch := first | omega | exact getEq rfl | exact getO0 | exact Nat.le_of_ble_eq_true rfl) [c40_o0, c40_o1, frameOf, came_some, goI, List.getElem?_cons_zero, List.getElem?_cons_succ, kn, keep, frameOf, size_mk, get_mk_lt, get_mk_ge, Eff.app, Heap.setOwn, putAt, AV.cells, fillA, loadA, takeA, mk, Eff.isAll, Eff.isNone, Eff.commutes, Eff.spares, okPair, apart, eqAgg, fits, LK.fits, allEq, aveq, eqk, mmA, beqT, wrapI, idxI, tdivI, tmodI, decT, decF, ibT, ibF, inT, inF, evScope_c, if_pos, if_neg]
  have t1 : Tr tbl J ((.seq c40_o2 (.cond (.s [false, true, false, true]) (.seq c40_o3 .ret) .skip))) (fun s h' => s.get [] = G lot ∧ s.get [false, false] = .ptr h.size 0 2 ∧ s.get [false, true] = G N ∧ h' = ⟨h.get, h.size, [.cells 0 2 [.slice bA 0 N N, .slice bR 0 N N]]⟩) .normal (fun s h' => s.get [false, false] = .ptr h.size 0 2 ∧ s.get [false, true] = G N ∧ h' = ⟨h.get, h.size, [.cells 0 2 [.slice bA 0 N N, .slice bR 0 N N]]⟩) := Tr.region fun s h hp => by
    obtain ⟨g0, g1, g2, rfl⟩ := hp
    simp (disch := first | omega | exact getEq rfl | exact getO0 | exact Nat.le_of_ble_eq_true rfl) [c40_o2, came_some, goI, List.getElem?_cons_zero, List.getElem?_cons_succ, kn, keep, frameOf, size_mk, get_mk_lt, get_mk_ge, Eff.app, Heap.setOwn, putAt, AV.cells, fillA, loadA, takeA, mk, Eff.isAll, Eff.isNone, Eff.commutes, Eff.spares, okPair, apart, eqAgg, fits, LK.fits, allEq, aveq, eqk, mmA, beqT, wrapI, idxI, tdivI, tmodI, decT, decF, ibT, ibF, inT, inF, evScope_c, if_pos, if_neg, g0, g1, g2]
  have t2 : Tr tbl J (c40_o4) (fun s h' => s.get [false, false] = .ptr h.size 0 2 ∧ s.get [false, true] = G N ∧ h' = ⟨h.get, h.size, [.cells 0 2 [.slice bA 0 N N, .slice bR 0 N N]]⟩) .normal (fun s h' => s.get [false, false] = .ptr h.size 0 2 ∧ s.get [false, true] = G N ∧ s.get [true, true] = G ((0 : Nat) : Int) ∧ h' = ⟨h.get, h.size, [.cells 0 2 [.slice bA 0 N N, .slice bR 0 N N]]⟩) := Tr.region fun s h hp => by
    obtain ⟨g0, g1, rfl⟩ := hp
    simp (disch := first | omega | exact getEq rfl | exact getO0 | exact Nat.le_of_ble_eq_true rfl) [c40_o4, came_some, goI, List.getElem?_cons_zero, List.getElem?_cons_succ, kn, keep, frameOf, size_mk, get_mk_lt, get_mk_ge, Eff.app, Heap.setOwn, putAt, AV.cells, fillA, loadA, takeA, mk, Eff.isAll, Eff.isNone, Eff.commutes, Eff.spares, okPair, apart, eqAgg, fits, LK.fits, allEq, aveq, eqk, mmA, beqT, wrapI, idxI, tdivI, tmodI, decT, decF, ibT, ibF, inT, inF, evScope_c, if_pos, if_neg, g0, g1]
  have tl : Tr tbl J c40_l0 (fun s h' => s.get [false, false] = .ptr h.size 0 2 ∧ s.get [false, true] = G N ∧ s.get [true, true] = G ((0 : Nat) : Int) ∧ h' = ⟨h.get, h.size, [.cells 0 2 [.slice bA 0 N N, .slice bR 0 N N]]⟩) (.exit 0) (fun s h' => s.get [false, false] = .ptr h.size 0 2 ∧ s.get [false, true] = G N ∧ h' = ⟨h.get, h.size, [.cells 0 2 [.slice bA 0 N N, .slice bR 0 N N]]⟩) := by
    refine Tr.rounds (P := fun i => (fun s h' => s.get [false, false] = .ptr h.size 0 2 ∧ s.get [false, true] = G N ∧ s.get [true, true] = G i ∧ h' = ⟨h.get, h.size, [.cells 0 2 [.slice bA 0 N N, .slice bR 0 N N]]⟩)) (M := N) (fun i hN => ?_) ?_ (by simp) 0 (by omega)
    · have y1 := x1 i hN
      have y2 := x2 i hN
      obtain ⟨z1, z2, z3, z4, z5⟩ := hi i hN
      generalize A i = p at *
      generalize R i = q at *
      have t : Tr tbl J ((.trim [[false, false], [false, true], [true, true]] c40_b0)) (fun s h' => s.get [false, false] = .ptr h.size 0 2 ∧ s.get [false, true] = G N ∧ s.get [true, true] = G i ∧ h' = ⟨h.get, h.size, [.cells 0 2 [.slice bA 0 N N, .slice bR 0 N N]]⟩) .normal (fun s h' => s.get [false, false] = .ptr h.size 0 2 ∧ s.get [false, true] = G N ∧ s.get [true, true] = G ((i + 1 : Nat) : Int) ∧ h' = ⟨h.get, h.size, [.cells 0 2 [.slice bA 0 N N, .slice bR 0 N N]]⟩) := Tr.region fun s h hp => by
        obtain ⟨g0, g1, g2, rfl⟩ := hp
        simp (disch := first | omega | exact getEq rfl | exact getO0 | exact Nat.le_of_ble_eq_true rfl) [c40_b0, c40_o5, c40_o6, c40_o7, c40_o9, came_some, goI, List.getElem?_cons_zero, List.getElem?_cons_succ, kn, keep, frameOf, size_mk, get_mk_lt, get_mk_ge, Eff.app, Heap.setOwn, putAt, AV.cells, fillA, loadA, takeA, mk, Eff.isAll, Eff.isNone, Eff.commutes, Eff.spares, okPair, apart, eqAgg, fits, LK.fits, allEq, aveq, eqk, mmA, beqT, wrapI, idxI, tdivI, tmodI, decT, decF, ibT, ibF, inT, inF, evScope_c, if_pos, if_neg, g0, g1, g2, m1, m2, y1, y2]
      exact t
    ·
      have t : Tr tbl J ((.trim [[false, false], [false, true], [true, true]] c40_b0)) (fun s h' => s.get [false, false] = .ptr h.size 0 2 ∧ s.get [false, true] = G N ∧ s.get [true, true] = G N ∧ h' = ⟨h.get, h.size, [.cells 0 2 [.slice bA 0 N N, .slice bR 0 N N]]⟩) (.exit 0) (fun s h' => s.get [false, false] = .ptr h.size 0 2 ∧ s.get [false, true] = G N ∧ h' = ⟨h.get, h.size, [.cells 0 2 [.slice bA 0 N N, .slice bR 0 N N]]⟩) := Tr.region fun s h hp => by
        obtain ⟨g0, g1, g2, rfl⟩ := hp
        simp (disch := first | omega | exact getEq rfl | exact getO0 | exact Nat.le_of_ble_eq_true rfl) [c40_b0, c40_o5, came_some, goI, List.getElem?_cons_zero, List.getElem?_cons_succ, kn, keep, frameOf, size_mk, get_mk_lt, get_mk_ge, Eff.app, Heap.setOwn, putAt, AV.cells, fillA, loadA, takeA, mk, Eff.isAll, Eff.isNone, Eff.commutes, Eff.spares, okPair, apart, eqAgg, fits, LK.fits, allEq, aveq, eqk, mmA, beqT, wrapI, idxI, tdivI, tmodI, decT, decF, ibT, ibF, inT, inF, evScope_c, if_pos, if_neg, g0, g1, g2]
      exact t
  have y1 := x1 (N - 1) (by omega)
  have y2 := x2 (N - 1) (by omega)
  have hz := hi (N - 1) (by omega)
  rw [he] at y2 hz
  generalize A (N - 1) = p at *
  have e1 : ((N : Int) - 1).toNat = N - 1 := by omega
  have t3 : Tr tbl J ((.seq c40_o10 .ret)) (fun s h' => s.get [false, false] = .ptr h.size 0 2 ∧ s.get [false, true] = G N ∧ h' = ⟨h.get, h.size, [.cells 0 2 [.slice bA 0 N N, .slice bR 0 N N]]⟩) .ret (fun s h => s.get [true, false] = .bool true) := Tr.region fun s h hp => by
    obtain ⟨g0, g1, rfl⟩ := hp
    simp (disch := first | omega | exact getEq rfl | exact getO0 | exact Nat.le_of_ble_eq_true rfl) [c40_o10, came_some, goI, List.getElem?_cons_zero, List.getElem?_cons_succ, kn, keep, frameOf, size_mk, get_mk_lt, get_mk_ge, Eff.app, Heap.setOwn, putAt, AV.cells, fillA, loadA, takeA, mk, Eff.isAll, Eff.isNone, Eff.commutes, Eff.spares, okPair, apart, eqAgg, fits, LK.fits, allEq, aveq, eqk, mmA, beqT, wrapI, idxI, tdivI, tmodI, decT, decF, ibT, ibF, inT, inF, evScope_c, if_pos, if_neg, g0, g1, m1, m2, y1, y2, e1]
  exact Tr.app2 t0 (Tr.seq t1 (Tr.seq (Tr.seq t2 (Tr.block tl)) t3))
end

end Go.Proofs.Ytlkgpcfhpeilhaa.Ev
