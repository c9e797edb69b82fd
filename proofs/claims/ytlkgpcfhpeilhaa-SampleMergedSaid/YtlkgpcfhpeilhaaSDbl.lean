/-
  What isDouble and Twice answer, Double and the reference's Double. No condition.
-/
import Derived.Test.YtlkgpcfhpeilhaaSHelp
set_option linter.unusedVariables false
set_option linter.unusedSimpArgs false
namespace Go.Proofs.Ytlkgpcfhpeilhaa.Ev
open Go Go.AEv

attribute [local simp] evFunc initS evOps_c evTrim_c evSkip_c evExit_c evRet_c evSeq_c evCond_c evBlock_c evDraw_c runOps_n runOps_c exec_n exec_g pure1_c act AOpd.ev T.get T.set T.put evBin evUn forceT_eq forceV_eq forceL_eq evRess evRes one keep runFP_n runFP_c app_none AV.flats AV.flat

/-- A double plan for a lot. -/
def dblOk (lot n c r m d : Int) : Prop := (1 ≤ n ∧ n ≤ lot) ∧ (1 ≤ m ∧ m ≤ lot - n) ∧ (0 ≤ c ∧ c ≤ n) ∧ (c + 2 ≤ r ∧ r ≤ n + 1) ∧ (r - 1 ≤ d ∧ d ≤ n + m - 1)
instance (lot n c r m d : Int) : Decidable (dblOk lot n c r m d) := by unfold dblOk; infer_instance

theorem c66_ok (J : CallF) (K : Kn J) (hJ : ∀ a h, J 66 a h = none) (lot n c r m d : Int) (hl : 1 ≤ lot ∧ lot ≤ 36) : CallsTo tbl J 66 [G lot, .agg [G n, G c, G r, G m, G d]] e0 (.bool (decide (dblOk lot n c r m d)), [], false) := by
  refine CallsTo.plain (cf := c66) (h' := ⟨e0.get, 0, [.cells 0 5 [G n, G c, G r, G m, G d]]⟩) (by decide) rfl (hJ _ _) rfl rfl ?_
  rw [show frameOf e0 = ⟨e0.get, 0, []⟩ from rfl]
  by_cases w0 : 1 ≤ n ∧ n ≤ lot
  ·
    by_cases w1 : 1 ≤ m ∧ m ≤ lot - n
    ·
      by_cases w2 : 0 ≤ c ∧ c ≤ n
      ·
        by_cases w3 : c + 2 ≤ r ∧ r ≤ n + 1
        ·
          by_cases w4 : r - 1 ≤ d ∧ d ≤ n + m - 1
          ·
            have hd : decide (dblOk lot n c r m d) = true := decide_eq_true (by unfold dblOk; omega)
            rw [hd]
            simp (disch := first | omega | exact getEq rfl | exact getO0 | exact Nat.le_of_ble_eq_true rfl) [c66, c66_o0, c66_o1, c66_o2, came_some, goI, List.getElem?_cons_zero, List.getElem?_cons_succ, kn, keep, frameOf, Heap.size, Heap.get, Eff.app, Heap.setOwn, putAt, AV.cells, fillA, loadA, takeA, mk, Eff.isAll, Eff.isNone, Eff.commutes, Eff.spares, okPair, apart, eqAgg, fits, LK.fits, allEq, aveq, eqk, mmA, beqT, wrapI, idxI, tdivI, tmodI, decT, decF, ibT, ibF, inT, inF, evScope_c, if_pos, if_neg, K.k67, w0, w1, w2, w3, w4]
          ·
            have hd : decide (dblOk lot n c r m d) = false := decide_eq_false (by unfold dblOk; omega)
            rw [hd]
            simp (disch := first | omega | exact getEq rfl | exact getO0 | exact Nat.le_of_ble_eq_true rfl) [c66, c66_o0, c66_o1, c66_o2, came_some, goI, List.getElem?_cons_zero, List.getElem?_cons_succ, kn, keep, frameOf, Heap.size, Heap.get, Eff.app, Heap.setOwn, putAt, AV.cells, fillA, loadA, takeA, mk, Eff.isAll, Eff.isNone, Eff.commutes, Eff.spares, okPair, apart, eqAgg, fits, LK.fits, allEq, aveq, eqk, mmA, beqT, wrapI, idxI, tdivI, tmodI, decT, decF, ibT, ibF, inT, inF, evScope_c, if_pos, if_neg, K.k67, w0, w1, w2, w3, w4]
        ·
          have hd : decide (dblOk lot n c r m d) = false := decide_eq_false (by unfold dblOk; omega)
          rw [hd]
          simp (disch := first | omega | exact getEq rfl | exact getO0 | exact Nat.le_of_ble_eq_true rfl) [c66, c66_o0, c66_o1, c66_o2, came_some, goI, List.getElem?_cons_zero, List.getElem?_cons_succ, kn, keep, frameOf, Heap.size, Heap.get, Eff.app, Heap.setOwn, putAt, AV.cells, fillA, loadA, takeA, mk, Eff.isAll, Eff.isNone, Eff.commutes, Eff.spares, okPair, apart, eqAgg, fits, LK.fits, allEq, aveq, eqk, mmA, beqT, wrapI, idxI, tdivI, tmodI, decT, decF, ibT, ibF, inT, inF, evScope_c, if_pos, if_neg, K.k67, w0, w1, w2, w3]
      ·
        have hd : decide (dblOk lot n c r m d) = false := decide_eq_false (by unfold dblOk; omega)
        rw [hd]
        simp (disch := first | omega | exact getEq rfl | exact getO0 | exact Nat.le_of_ble_eq_true rfl) [c66, c66_o0, c66_o1, c66_o2, came_some, goI, List.getElem?_cons_zero, List.getElem?_cons_succ, kn, keep, frameOf, Heap.size, Heap.get, Eff.app, Heap.setOwn, putAt, AV.cells, fillA, loadA, takeA, mk, Eff.isAll, Eff.isNone, Eff.commutes, Eff.spares, okPair, apart, eqAgg, fits, LK.fits, allEq, aveq, eqk, mmA, beqT, wrapI, idxI, tdivI, tmodI, decT, decF, ibT, ibF, inT, inF, evScope_c, if_pos, if_neg, K.k67, w0, w1, w2]
    ·
      have hd : decide (dblOk lot n c r m d) = false := decide_eq_false (by unfold dblOk; omega)
      rw [hd]
      simp (disch := first | omega | exact getEq rfl | exact getO0 | exact Nat.le_of_ble_eq_true rfl) [c66, c66_o0, c66_o1, c66_o2, came_some, goI, List.getElem?_cons_zero, List.getElem?_cons_succ, kn, keep, frameOf, Heap.size, Heap.get, Eff.app, Heap.setOwn, putAt, AV.cells, fillA, loadA, takeA, mk, Eff.isAll, Eff.isNone, Eff.commutes, Eff.spares, okPair, apart, eqAgg, fits, LK.fits, allEq, aveq, eqk, mmA, beqT, wrapI, idxI, tdivI, tmodI, decT, decF, ibT, ibF, inT, inF, evScope_c, if_pos, if_neg, K.k67, w0, w1]
  ·
    have hd : decide (dblOk lot n c r m d) = false := decide_eq_false (by unfold dblOk; omega)
    rw [hd]
    simp (disch := first | omega | exact getEq rfl | exact getO0 | exact Nat.le_of_ble_eq_true rfl) [c66, c66_o0, c66_o1, c66_o2, came_some, goI, List.getElem?_cons_zero, List.getElem?_cons_succ, kn, keep, frameOf, Heap.size, Heap.get, Eff.app, Heap.setOwn, putAt, AV.cells, fillA, loadA, takeA, mk, Eff.isAll, Eff.isNone, Eff.commutes, Eff.spares, okPair, apart, eqAgg, fits, LK.fits, allEq, aveq, eqk, mmA, beqT, wrapI, idxI, tdivI, tmodI, decT, decF, ibT, ibF, inT, inF, evScope_c, if_pos, if_neg, K.k67, w0]

theorem c48_ok (J : CallF) (hJ : ∀ a h, J 48 a h = none) (lot n c r m d : Int) (hl : 1 ≤ lot ∧ lot ≤ 36) : CallsTo tbl J 48 [G lot, .agg [G n, G c, G r, G m, G d]] e0 (.bool (decide (dblOk lot n c r m d)), [], false) := by
  refine CallsTo.plain (cf := c48) (h' := ⟨e0.get, 0, [.cells 0 5 [G n, G c, G r, G m, G d]]⟩) (by decide) rfl (hJ _ _) rfl rfl ?_
  rw [show frameOf e0 = ⟨e0.get, 0, []⟩ from rfl]
  by_cases w0 : 1 ≤ n
  ·
    by_cases w1 : n ≤ lot
    ·
      by_cases w2 : 1 ≤ m
      ·
        by_cases w3 : m ≤ lot - n
        ·
          by_cases w4 : 0 ≤ c
          ·
            by_cases w5 : c ≤ n
            ·
              by_cases w6 : c + 1 < r
              ·
                by_cases w7 : r ≤ n + 1
                ·
                  by_cases w8 : r - 1 ≤ d
                  ·
                    by_cases w9 : d < n + m
                    ·
                      have hd : decide (dblOk lot n c r m d) = true := decide_eq_true (by unfold dblOk; omega)
                      rw [hd]
                      simp (disch := first | omega | exact getEq rfl | exact getO0 | exact Nat.le_of_ble_eq_true rfl) [c48, c48_o0, c48_o1, c48_o2, came_some, goI, List.getElem?_cons_zero, List.getElem?_cons_succ, kn, keep, frameOf, Heap.size, Heap.get, Eff.app, Heap.setOwn, putAt, AV.cells, fillA, loadA, takeA, mk, Eff.isAll, Eff.isNone, Eff.commutes, Eff.spares, okPair, apart, eqAgg, fits, LK.fits, allEq, aveq, eqk, mmA, beqT, wrapI, idxI, tdivI, tmodI, decT, decF, ibT, ibF, inT, inF, evScope_c, if_pos, if_neg, w0, w1, w2, w3, w4, w5, w6, w7, w8, w9]
                    ·
                      have hd : decide (dblOk lot n c r m d) = false := decide_eq_false (by unfold dblOk; omega)
                      rw [hd]
                      simp (disch := first | omega | exact getEq rfl | exact getO0 | exact Nat.le_of_ble_eq_true rfl) [c48, c48_o0, c48_o1, c48_o2, came_some, goI, List.getElem?_cons_zero, List.getElem?_cons_succ, kn, keep, frameOf, Heap.size, Heap.get, Eff.app, Heap.setOwn, putAt, AV.cells, fillA, loadA, takeA, mk, Eff.isAll, Eff.isNone, Eff.commutes, Eff.spares, okPair, apart, eqAgg, fits, LK.fits, allEq, aveq, eqk, mmA, beqT, wrapI, idxI, tdivI, tmodI, decT, decF, ibT, ibF, inT, inF, evScope_c, if_pos, if_neg, w0, w1, w2, w3, w4, w5, w6, w7, w8, w9]
                  ·
                    have hd : decide (dblOk lot n c r m d) = false := decide_eq_false (by unfold dblOk; omega)
                    rw [hd]
                    simp (disch := first | omega | exact getEq rfl | exact getO0 | exact Nat.le_of_ble_eq_true rfl) [c48, c48_o0, c48_o1, c48_o2, came_some, goI, List.getElem?_cons_zero, List.getElem?_cons_succ, kn, keep, frameOf, Heap.size, Heap.get, Eff.app, Heap.setOwn, putAt, AV.cells, fillA, loadA, takeA, mk, Eff.isAll, Eff.isNone, Eff.commutes, Eff.spares, okPair, apart, eqAgg, fits, LK.fits, allEq, aveq, eqk, mmA, beqT, wrapI, idxI, tdivI, tmodI, decT, decF, ibT, ibF, inT, inF, evScope_c, if_pos, if_neg, w0, w1, w2, w3, w4, w5, w6, w7, w8]
                ·
                  have hd : decide (dblOk lot n c r m d) = false := decide_eq_false (by unfold dblOk; omega)
                  rw [hd]
                  simp (disch := first | omega | exact getEq rfl | exact getO0 | exact Nat.le_of_ble_eq_true rfl) [c48, c48_o0, c48_o1, c48_o2, came_some, goI, List.getElem?_cons_zero, List.getElem?_cons_succ, kn, keep, frameOf, Heap.size, Heap.get, Eff.app, Heap.setOwn, putAt, AV.cells, fillA, loadA, takeA, mk, Eff.isAll, Eff.isNone, Eff.commutes, Eff.spares, okPair, apart, eqAgg, fits, LK.fits, allEq, aveq, eqk, mmA, beqT, wrapI, idxI, tdivI, tmodI, decT, decF, ibT, ibF, inT, inF, evScope_c, if_pos, if_neg, w0, w1, w2, w3, w4, w5, w6, w7]
              ·
                have hd : decide (dblOk lot n c r m d) = false := decide_eq_false (by unfold dblOk; omega)
                rw [hd]
                simp (disch := first | omega | exact getEq rfl | exact getO0 | exact Nat.le_of_ble_eq_true rfl) [c48, c48_o0, c48_o1, c48_o2, came_some, goI, List.getElem?_cons_zero, List.getElem?_cons_succ, kn, keep, frameOf, Heap.size, Heap.get, Eff.app, Heap.setOwn, putAt, AV.cells, fillA, loadA, takeA, mk, Eff.isAll, Eff.isNone, Eff.commutes, Eff.spares, okPair, apart, eqAgg, fits, LK.fits, allEq, aveq, eqk, mmA, beqT, wrapI, idxI, tdivI, tmodI, decT, decF, ibT, ibF, inT, inF, evScope_c, if_pos, if_neg, w0, w1, w2, w3, w4, w5, w6]
            ·
              have hd : decide (dblOk lot n c r m d) = false := decide_eq_false (by unfold dblOk; omega)
              rw [hd]
              simp (disch := first | omega | exact getEq rfl | exact getO0 | exact Nat.le_of_ble_eq_true rfl) [c48, c48_o0, c48_o1, c48_o2, came_some, goI, List.getElem?_cons_zero, List.getElem?_cons_succ, kn, keep, frameOf, Heap.size, Heap.get, Eff.app, Heap.setOwn, putAt, AV.cells, fillA, loadA, takeA, mk, Eff.isAll, Eff.isNone, Eff.commutes, Eff.spares, okPair, apart, eqAgg, fits, LK.fits, allEq, aveq, eqk, mmA, beqT, wrapI, idxI, tdivI, tmodI, decT, decF, ibT, ibF, inT, inF, evScope_c, if_pos, if_neg, w0, w1, w2, w3, w4, w5]
          ·
            have hd : decide (dblOk lot n c r m d) = false := decide_eq_false (by unfold dblOk; omega)
            rw [hd]
            simp (disch := first | omega | exact getEq rfl | exact getO0 | exact Nat.le_of_ble_eq_true rfl) [c48, c48_o0, c48_o1, c48_o2, came_some, goI, List.getElem?_cons_zero, List.getElem?_cons_succ, kn, keep, frameOf, Heap.size, Heap.get, Eff.app, Heap.setOwn, putAt, AV.cells, fillA, loadA, takeA, mk, Eff.isAll, Eff.isNone, Eff.commutes, Eff.spares, okPair, apart, eqAgg, fits, LK.fits, allEq, aveq, eqk, mmA, beqT, wrapI, idxI, tdivI, tmodI, decT, decF, ibT, ibF, inT, inF, evScope_c, if_pos, if_neg, w0, w1, w2, w3, w4]
        ·
          have hd : decide (dblOk lot n c r m d) = false := decide_eq_false (by unfold dblOk; omega)
          rw [hd]
          simp (disch := first | omega | exact getEq rfl | exact getO0 | exact Nat.le_of_ble_eq_true rfl) [c48, c48_o0, c48_o1, c48_o2, came_some, goI, List.getElem?_cons_zero, List.getElem?_cons_succ, kn, keep, frameOf, Heap.size, Heap.get, Eff.app, Heap.setOwn, putAt, AV.cells, fillA, loadA, takeA, mk, Eff.isAll, Eff.isNone, Eff.commutes, Eff.spares, okPair, apart, eqAgg, fits, LK.fits, allEq, aveq, eqk, mmA, beqT, wrapI, idxI, tdivI, tmodI, decT, decF, ibT, ibF, inT, inF, evScope_c, if_pos, if_neg, w0, w1, w2, w3]
      ·
        have hd : decide (dblOk lot n c r m d) = false := decide_eq_false (by unfold dblOk; omega)
        rw [hd]
        simp (disch := first | omega | exact getEq rfl | exact getO0 | exact Nat.le_of_ble_eq_true rfl) [c48, c48_o0, c48_o1, c48_o2, came_some, goI, List.getElem?_cons_zero, List.getElem?_cons_succ, kn, keep, frameOf, Heap.size, Heap.get, Eff.app, Heap.setOwn, putAt, AV.cells, fillA, loadA, takeA, mk, Eff.isAll, Eff.isNone, Eff.commutes, Eff.spares, okPair, apart, eqAgg, fits, LK.fits, allEq, aveq, eqk, mmA, beqT, wrapI, idxI, tdivI, tmodI, decT, decF, ibT, ibF, inT, inF, evScope_c, if_pos, if_neg, w0, w1, w2]
    ·
      have hd : decide (dblOk lot n c r m d) = false := decide_eq_false (by unfold dblOk; omega)
      rw [hd]
      simp (disch := first | omega | exact getEq rfl | exact getO0 | exact Nat.le_of_ble_eq_true rfl) [c48, c48_o0, c48_o1, c48_o2, came_some, goI, List.getElem?_cons_zero, List.getElem?_cons_succ, kn, keep, frameOf, Heap.size, Heap.get, Eff.app, Heap.setOwn, putAt, AV.cells, fillA, loadA, takeA, mk, Eff.isAll, Eff.isNone, Eff.commutes, Eff.spares, okPair, apart, eqAgg, fits, LK.fits, allEq, aveq, eqk, mmA, beqT, wrapI, idxI, tdivI, tmodI, decT, decF, ibT, ibF, inT, inF, evScope_c, if_pos, if_neg, w0, w1]
  ·
    have hd : decide (dblOk lot n c r m d) = false := decide_eq_false (by unfold dblOk; omega)
    rw [hd]
    simp (disch := first | omega | exact getEq rfl | exact getO0 | exact Nat.le_of_ble_eq_true rfl) [c48, c48_o0, c48_o1, c48_o2, came_some, goI, List.getElem?_cons_zero, List.getElem?_cons_succ, kn, keep, frameOf, Heap.size, Heap.get, Eff.app, Heap.setOwn, putAt, AV.cells, fillA, loadA, takeA, mk, Eff.isAll, Eff.isNone, Eff.commutes, Eff.spares, okPair, apart, eqAgg, fits, LK.fits, allEq, aveq, eqk, mmA, beqT, wrapI, idxI, tdivI, tmodI, decT, decF, ibT, ibF, inT, inF, evScope_c, if_pos, if_neg, w0]

def spec66 : SpecV
  | [.int .i64 lot, .agg [.int .i64 n, .int .i64 c, .int .i64 r, .int .i64 m, .int .i64 d]] => if 1 ≤ lot ∧ lot ≤ 36 then some (.bool (decide (dblOk lot n c r m d))) else none
  | _ => none
/-! ### The sums -/
/-- The ways with k bad pieces among the first n. -/
def tm (lot bad n : Int) (k : Nat) : Nat := ofZ n k * ofZ (lot - n) (bad - k)
/-- The ways with k bad ones among the first n and less than j among the m that follow. -/
def inn (lot bad n m : Int) (k : Nat) : Nat → Nat
  | 0 => 0
  | j + 1 => inn lot bad n m k j + ofZ n k * ofZ m j * ofZ (lot - n - m) (bad - k - j)
theorem tm_le {lot bad n : Int} (h0 : 0 ≤ n) (h1 : n ≤ lot) (h2 : lot ≤ 36) (k : Nat) : tm lot bad n k ≤ 68719476736 := acc_term lot bad n k h0 h1 h2
theorem inn_term {lot bad n m : Int} (h0 : 0 ≤ n) (h1 : 0 ≤ m) (h2 : n + m ≤ lot) (h3 : lot ≤ 36) (k j : Nat) : ofZ n k * ofZ m j ≤ 68719476736 ∧ ofZ n k * ofZ m j * ofZ (lot - n - m) (bad - k - j) ≤ 68719476736 := by
  have a := ofZ_le n k n.toNat (by omega)
  have b := ofZ_le m j m.toNat (by omega)
  have c := ofZ_le (lot - n - m) (bad - k - j) (lot - n - m).toNat (by omega)
  have x := Nat.mul_le_mul a b
  have y := Nat.mul_le_mul x c
  rw [← Nat.pow_add] at x y
  rw [← Nat.pow_add] at y
  have p : 2 ^ (n.toNat + m.toNat) ≤ 2 ^ 36 := Nat.pow_le_pow_right (by omega) (by omega)
  have q : 2 ^ (n.toNat + m.toNat + (lot - n - m).toNat) ≤ 2 ^ 36 := Nat.pow_le_pow_right (by omega) (by omega)
  omega
theorem inn_le {lot bad n m : Int} (h0 : 0 ≤ n) (h1 : 0 ≤ m) (h2 : n + m ≤ lot) (h3 : lot ≤ 36) (k : Nat) : ∀ j, inn lot bad n m k j ≤ j * 68719476736
  | 0 => by simp [inn]
  | j + 1 => by
    have := inn_le (bad := bad) h0 h1 h2 h3 k j
    have := (inn_term (bad := bad) h0 h1 h2 h3 k j).2
    simp only [inn]; omega
theorem inn_over {lot bad n m : Int} (k j : Nat) (h : m < j) : ∀ i, inn lot bad n m k (j + i) = inn lot bad n m k j
  | 0 => rfl
  | i + 1 => by
    rw [← Nat.add_assoc, inn, inn_over k j h i]
    have : ofZ m ((j + i : Nat) : Int) = 0 := by unfold ofZ; rw [if_neg (by omega)]
    rw [this]; simp
/-- Over the numbers of bad pieces that let the second sample be taken: from c + 1 on, i of them. -/
def sec (lot bad n c : Int) : Nat → Nat
  | 0 => 0
  | i + 1 => sec lot bad n c i + tm lot bad n (c.toNat + 1 + i)
def snd (lot bad n c m d : Int) : Nat → Nat
  | 0 => 0
  | i + 1 => snd lot bad n c m d i + inn lot bad n m (c.toNat + 1 + i) (d - (c.toNat + 1 + i : Nat) + 1).toNat
theorem sec_le {lot bad n c : Int} (h0 : 0 ≤ n) (h1 : n ≤ lot) (h2 : lot ≤ 36) : ∀ i, sec lot bad n c i ≤ i * 68719476736
  | 0 => by simp [sec]
  | i + 1 => by
    have := sec_le (bad := bad) (c := c) h0 h1 h2 i
    have := tm_le (bad := bad) h0 h1 h2 (c.toNat + 1 + i)
    simp only [sec]; omega
theorem snd_le {lot bad n c m d : Int} (h0 : 0 ≤ n) (h1 : 0 ≤ m) (h2 : n + m ≤ lot) (h3 : lot ≤ 36) (hd : d ≤ 36) (hc : 0 ≤ c) : ∀ i, snd lot bad n c m d i ≤ i * 2542620639232
  | 0 => by simp [snd]
  | i + 1 => by
    have := snd_le (bad := bad) (d := d) h0 h1 h2 h3 hd hc i
    have := inn_le (bad := bad) h0 h1 h2 h3 (c.toNat + 1 + i) (d - (c.toNat + 1 + i : Nat) + 1).toNat
    have := Nat.mul_le_mul_right 68719476736 (show (d - (c.toNat + 1 + i : Nat) + 1).toNat ≤ 37 by omega)
    simp only [snd]; omega

end Go.Proofs.Ytlkgpcfhpeilhaa.Ev
