/-
  What the reference's Fits answers, whatever the lists are; and its Decide. No condition.
-/
import Derived.Test.YtlkgpcfhpeilhaaSCrs
set_option linter.unusedVariables false
set_option linter.unusedSimpArgs false
namespace Go.Proofs.Ytlkgpcfhpeilhaa.Ev
open Go Go.AEv

attribute [local simp] evFunc initS evOps_c evTrim_c evSkip_c evExit_c evRet_c evSeq_c evCond_c evBlock_c evDraw_c runOps_n runOps_c exec_n exec_g pure1_c act AOpd.ev T.get T.set T.put evBin evUn forceT_eq forceV_eq forceL_eq evRess evRes one keep runFP_n runFP_c app_none AV.flats AV.flat

section
variable {lot : Int} {A R : List Int} {bA bR vA vR n : Nat} {ca cr : List AV}
abbrev P40 (h : Heap) (bA bR vA vR n i : Nat) : SP := (fun s h' => s.get [false, false] = .ptr h.size 0 2 ∧ s.get [false, true] = G n ∧ s.get [true, true] = G i ∧ h' = HC62 h bA bR vA vR n)

theorem fit_loop (J : CallF) (h : Heap) (m1 : h.get bA = .cells 1 vA ca) (m2 : h.get bR = .cells 1 vR cr) (hca : ∀ i : Nat, i < n → ca[i]? = some (G (A.getD i 0))) (hcr : ∀ i : Nat, i < n → cr[i]? = some (G (R.getD i 0))) (hn : n ≤ 36) :
    ∀ j i, i + j = n → ((∀ k, i ≤ k → k < n → stepOk n A R k) → Tr tbl J c40_l0 (P40 h bA bR vA vR n i) (.exit 0) (fun s h' => s.get [false, false] = .ptr h.size 0 2 ∧ s.get [false, true] = G n ∧ h' = HC62 h bA bR vA vR n)) ∧ ((¬ ∀ k, i ≤ k → k < n → stepOk n A R k) → Tr tbl J c40_l0 (P40 h bA bR vA vR n i) .ret (fun s h => s.get [true, false] = .bool false)) := by
  have l1 := get_lt m1 (by simp)
  have l2 := get_lt m2 (by simp)
  intro j
  induction j with
  | zero =>
    intro i hi
    obtain rfl : i = n := by omega
    refine ⟨fun _ => ?_, fun hne => absurd (fun k h1 h2 => by omega) hne⟩
    have t : Tr tbl J ((.trim [[false, false], [false, true], [true, true]] c40_b0)) (fun s h' => s.get [false, false] = .ptr h.size 0 2 ∧ s.get [false, true] = G i ∧ s.get [true, true] = G i ∧ h' = HC62 h bA bR vA vR i) (.exit 0) (fun s h' => s.get [false, false] = .ptr h.size 0 2 ∧ s.get [false, true] = G i ∧ h' = HC62 h bA bR vA vR i) := Tr.region fun s h hp => by
      obtain ⟨g0, g1, g2, rfl⟩ := hp
      simp (disch := first | omega | exact getEq rfl | exact getO0 | exact Nat.le_of_ble_eq_true rfl) [c40_b0, c40_o5, came_some, goI, List.getElem?_cons_zero, List.getElem?_cons_succ, kn, keep, frameOf, size_mk, get_mk_lt, get_mk_ge, Eff.app, Heap.setOwn, putAt, AV.cells, fillA, loadA, takeA, mk, Eff.isAll, Eff.isNone, Eff.commutes, Eff.spares, okPair, apart, eqAgg, fits, LK.fits, allEq, aveq, eqk, mmA, beqT, wrapI, idxI, tdivI, tmodI, decT, decF, ibT, ibF, inT, inF, evScope_c, if_pos, if_neg, g0, g1, g2]
    exact Tr.out t (by simp)
  | succ j ih =>
    intro i hi
    have xa := hca i (by omega)
    have xr := hcr i (by omega)
    have ih' := ih (i + 1) (by omega)
    clear hca hcr ih
    by_cases hs : stepOk n A R i
    · have hs' := hs
      obtain ⟨s1, s2, s3⟩ := hs'
      have hiff : (∀ k, i ≤ k → k < n → stepOk n A R k) ↔ (∀ k, i + 1 ≤ k → k < n → stepOk n A R k) :=
        ⟨fun q k h1 h2 => q k (by omega) h2, fun q k h1 h2 => by
          by_cases hk : k = i
          · subst hk; exact hs
          · exact q k (by omega) h2⟩
      rw [hiff]
      generalize A.getD i 0 = p at *
      generalize R.getD i 0 = q at *
      have t : Tr tbl J ((.trim [[false, false], [false, true], [true, true]] c40_b0)) (fun s h' => s.get [false, false] = .ptr h.size 0 2 ∧ s.get [false, true] = G n ∧ s.get [true, true] = G i ∧ h' = HC62 h bA bR vA vR n) .normal (fun s h' => s.get [false, false] = .ptr h.size 0 2 ∧ s.get [false, true] = G n ∧ s.get [true, true] = G ((i + 1 : Nat) : Int) ∧ h' = HC62 h bA bR vA vR n) := Tr.region fun s h hp => by
        obtain ⟨g0, g1, g2, rfl⟩ := hp
        simp (disch := first | omega | exact getEq rfl | exact getO0 | exact Nat.le_of_ble_eq_true rfl) [c40_b0, c40_o5, c40_o6, c40_o7, c40_o9, came_some, goI, List.getElem?_cons_zero, List.getElem?_cons_succ, kn, keep, frameOf, size_mk, get_mk_lt, get_mk_ge, Eff.app, Heap.setOwn, putAt, AV.cells, fillA, loadA, takeA, mk, Eff.isAll, Eff.isNone, Eff.commutes, Eff.spares, okPair, apart, eqAgg, fits, LK.fits, allEq, aveq, eqk, mmA, beqT, wrapI, idxI, tdivI, tmodI, decT, decF, ibT, ibF, inT, inF, evScope_c, if_pos, if_neg, g0, g1, g2, m1, m2, xa, xr]
      exact ⟨fun e => Tr.next t (ih'.1 e), fun e => Tr.next t (ih'.2 e)⟩
    · refine ⟨fun e => absurd (e i (by omega) (by omega)) hs, fun _ => ?_⟩
      have hs' : A.getD i 0 < -1 ∨ (-1 ≤ A.getD i 0 ∧ (n : Int) + 1 < A.getD i 0) ∨ ((-1 ≤ A.getD i 0 ∧ A.getD i 0 ≤ n + 1) ∧ R.getD i 0 < -1) ∨ ((-1 ≤ A.getD i 0 ∧ A.getD i 0 ≤ n + 1) ∧ -1 ≤ R.getD i 0 ∧ (n : Int) + 1 < R.getD i 0) ∨ ((-1 ≤ A.getD i 0 ∧ A.getD i 0 ≤ n + 1) ∧ (-1 ≤ R.getD i 0 ∧ R.getD i 0 ≤ n + 1) ∧ R.getD i 0 ≤ A.getD i 0) := by
        unfold stepOk at hs; omega
      clear hs ih'
      generalize A.getD i 0 = p at *
      generalize R.getD i 0 = q at *
      have t : Tr tbl J (.trim [[false, false], [false, true], [true, true]] c40_b0) (P40 h bA bR vA vR n i) .ret (fun s h => s.get [true, false] = .bool false) := by
        have t : Tr tbl J ((.trim [[false, false], [false, true], [true, true]] c40_b0)) (fun s h' => s.get [false, false] = .ptr h.size 0 2 ∧ s.get [false, true] = G n ∧ s.get [true, true] = G i ∧ h' = HC62 h bA bR vA vR n) .ret (fun s h => s.get [true, false] = .bool false) := Tr.region fun s h hp => by
          obtain ⟨g0, g1, g2, rfl⟩ := hp
          rcases hs' with h1 | ⟨h1, h2⟩ | ⟨⟨h1, h2⟩, h3⟩ | ⟨⟨h1, h2⟩, h3, h4⟩ | ⟨⟨h1, h2⟩, ⟨h3, h4⟩, h5⟩ <;> simp (disch := first | omega | exact getEq rfl | exact getO0 | exact Nat.le_of_ble_eq_true rfl) [c40_b0, c40_o5, c40_o6, c40_o7, c40_o8, came_some, goI, List.getElem?_cons_zero, List.getElem?_cons_succ, kn, keep, frameOf, size_mk, get_mk_lt, get_mk_ge, Eff.app, Heap.setOwn, putAt, AV.cells, fillA, loadA, takeA, mk, Eff.isAll, Eff.isNone, Eff.commutes, Eff.spares, okPair, apart, eqAgg, fits, LK.fits, allEq, aveq, eqk, mmA, beqT, wrapI, idxI, tdivI, tmodI, decT, decF, ibT, ibF, inT, inF, evScope_c, if_pos, if_neg, g0, g1, g2, m1, m2, xa, xr]
        exact t
      exact Tr.out t (by simp)

theorem fit_nil (J : CallF) (h : Heap) (y : AV) : Tr tbl J (.seq c40_o0 c40_o1) (fun s h' => s = T.set (T.set .leaf [] (G lot)) [false] (.agg [.nils, y]) ∧ h' = frameOf h) .normal (fun s h' => s.get [] = G lot ∧ s.get [false, false] = .ptr h.size 0 2 ∧ s.get [false, true] = G ((0 : Nat) : Int) ∧ h' = HX62 h .nils y) := by
  have t : Tr tbl J ((.seq c40_o0 c40_o1)) (fun s h' => s = T.set (T.set .leaf [] (G lot)) [false] (.agg [.nils, y]) ∧ h' = frameOf h) .normal (fun s h' => s.get [] = G lot ∧ s.get [false, false] = .ptr h.size 0 2 ∧ s.get [false, true] = G ((0 : Nat) : Int) ∧ h' = HX62 h .nils y) := Tr.region fun s h hp => by
    obtain ⟨rfl, rfl⟩ := hp
    simp (disch := first | omega | exact getEq rfl | exact getO0 | exact Nat.le_of_ble_eq_true rfl) [c40_o0, c40_o1, frameOf, came_some, goI, List.getElem?_cons_zero, List.getElem?_cons_succ, kn, keep, frameOf, size_mk, get_mk_lt, get_mk_ge, Eff.app, Heap.setOwn, putAt, AV.cells, fillA, loadA, takeA, mk, Eff.isAll, Eff.isNone, Eff.commutes, Eff.spares, okPair, apart, eqAgg, fits, LK.fits, allEq, aveq, eqk, mmA, beqT, wrapI, idxI, tdivI, tmodI, decT, decF, ibT, ibF, inT, inF, evScope_c, if_pos, if_neg]
  exact t
theorem fit_sl (J : CallF) (h : Heap) (y : AV) : Tr tbl J (.seq c40_o0 c40_o1) (fun s h' => s = T.set (T.set .leaf [] (G lot)) [false] (.agg [.slice bA 0 n vA, y]) ∧ h' = frameOf h) .normal (fun s h' => s.get [] = G lot ∧ s.get [false, false] = .ptr h.size 0 2 ∧ s.get [false, true] = G n ∧ h' = HX62 h (.slice bA 0 n vA) y) := by
  have t : Tr tbl J ((.seq c40_o0 c40_o1)) (fun s h' => s = T.set (T.set .leaf [] (G lot)) [false] (.agg [.slice bA 0 n vA, y]) ∧ h' = frameOf h) .normal (fun s h' => s.get [] = G lot ∧ s.get [false, false] = .ptr h.size 0 2 ∧ s.get [false, true] = G n ∧ h' = HX62 h (.slice bA 0 n vA) y) := Tr.region fun s h hp => by
    obtain ⟨rfl, rfl⟩ := hp
    simp (disch := first | omega | exact getEq rfl | exact getO0 | exact Nat.le_of_ble_eq_true rfl) [c40_o0, c40_o1, frameOf, came_some, goI, List.getElem?_cons_zero, List.getElem?_cons_succ, kn, keep, frameOf, size_mk, get_mk_lt, get_mk_ge, Eff.app, Heap.setOwn, putAt, AV.cells, fillA, loadA, takeA, mk, Eff.isAll, Eff.isNone, Eff.commutes, Eff.spares, okPair, apart, eqAgg, fits, LK.fits, allEq, aveq, eqk, mmA, beqT, wrapI, idxI, tdivI, tmodI, decT, decF, ibT, ibF, inT, inF, evScope_c, if_pos, if_neg]
  exact t
theorem fit_badn (J : CallF) (h : Heap) (x : AV) (hb : (0 : Int) ≠ n ∨ ((n : Int) = 0)) : Tr tbl J (.seq c40_o2 (.cond (.s [false, true, false, true]) (.seq c40_o3 .ret) .skip)) (fun s h' => s.get [] = G lot ∧ s.get [false, false] = .ptr h.size 0 2 ∧ s.get [false, true] = G n ∧ h' = HX62 h x .nils) .ret (fun s h => s.get [true, false] = .bool false) := by
  have t : Tr tbl J ((.seq c40_o2 (.cond (.s [false, true, false, true]) (.seq c40_o3 .ret) .skip))) (fun s h' => s.get [] = G lot ∧ s.get [false, false] = .ptr h.size 0 2 ∧ s.get [false, true] = G n ∧ h' = HX62 h x .nils) .ret (fun s h => s.get [true, false] = .bool false) := Tr.region fun s h hp => by
    obtain ⟨g0, g1, g2, rfl⟩ := hp
    rcases hb with h1 | h1 <;> simp (disch := first | omega | exact getEq rfl | exact getO0 | exact Nat.le_of_ble_eq_true rfl) [c40_o2, c40_o3, came_some, goI, List.getElem?_cons_zero, List.getElem?_cons_succ, kn, keep, frameOf, size_mk, get_mk_lt, get_mk_ge, Eff.app, Heap.setOwn, putAt, AV.cells, fillA, loadA, takeA, mk, Eff.isAll, Eff.isNone, Eff.commutes, Eff.spares, okPair, apart, eqAgg, fits, LK.fits, allEq, aveq, eqk, mmA, beqT, wrapI, idxI, tdivI, tmodI, decT, decF, ibT, ibF, inT, inF, evScope_c, if_pos, if_neg, g0, g1, g2]
  exact t
theorem fit_bads (J : CallF) (h : Heap) (x : AV) {m : Nat} (hb : (m : Int) ≠ n ∨ ((m : Int) = n ∧ (n : Int) < 1) ∨ ((m : Int) = n ∧ 1 ≤ (n : Int) ∧ lot < n)) : Tr tbl J (.seq c40_o2 (.cond (.s [false, true, false, true]) (.seq c40_o3 .ret) .skip)) (fun s h' => s.get [] = G lot ∧ s.get [false, false] = .ptr h.size 0 2 ∧ s.get [false, true] = G n ∧ h' = HX62 h x (.slice bR 0 m vR)) .ret (fun s h => s.get [true, false] = .bool false) := by
  have t : Tr tbl J ((.seq c40_o2 (.cond (.s [false, true, false, true]) (.seq c40_o3 .ret) .skip))) (fun s h' => s.get [] = G lot ∧ s.get [false, false] = .ptr h.size 0 2 ∧ s.get [false, true] = G n ∧ h' = HX62 h x (.slice bR 0 m vR)) .ret (fun s h => s.get [true, false] = .bool false) := Tr.region fun s h hp => by
    obtain ⟨g0, g1, g2, rfl⟩ := hp
    rcases hb with h1 | ⟨h1, h2⟩ | ⟨h1, h2, h3⟩ <;> simp (disch := first | omega | exact getEq rfl | exact getO0 | exact Nat.le_of_ble_eq_true rfl) [c40_o2, c40_o3, came_some, goI, List.getElem?_cons_zero, List.getElem?_cons_succ, kn, keep, frameOf, size_mk, get_mk_lt, get_mk_ge, Eff.app, Heap.setOwn, putAt, AV.cells, fillA, loadA, takeA, mk, Eff.isAll, Eff.isNone, Eff.commutes, Eff.spares, okPair, apart, eqAgg, fits, LK.fits, allEq, aveq, eqk, mmA, beqT, wrapI, idxI, tdivI, tmodI, decT, decF, ibT, ibF, inT, inF, evScope_c, if_pos, if_neg, g0, g1, g2]
  exact t
theorem fit_same (J : CallF) (h : Heap) (hn : 1 ≤ (n : Int) ∧ (n : Int) ≤ lot) : Tr tbl J (.seq c40_o2 (.cond (.s [false, true, false, true]) (.seq c40_o3 .ret) .skip)) (fun s h' => s.get [] = G lot ∧ s.get [false, false] = .ptr h.size 0 2 ∧ s.get [false, true] = G n ∧ h' = HC62 h bA bR vA vR n) .normal (fun s h' => s.get [false, false] = .ptr h.size 0 2 ∧ s.get [false, true] = G n ∧ h' = HC62 h bA bR vA vR n) := by
  have t : Tr tbl J ((.seq c40_o2 (.cond (.s [false, true, false, true]) (.seq c40_o3 .ret) .skip))) (fun s h' => s.get [] = G lot ∧ s.get [false, false] = .ptr h.size 0 2 ∧ s.get [false, true] = G n ∧ h' = HC62 h bA bR vA vR n) .normal (fun s h' => s.get [false, false] = .ptr h.size 0 2 ∧ s.get [false, true] = G n ∧ h' = HC62 h bA bR vA vR n) := Tr.region fun s h hp => by
    obtain ⟨g0, g1, g2, rfl⟩ := hp
    simp (disch := first | omega | exact getEq rfl | exact getO0 | exact Nat.le_of_ble_eq_true rfl) [c40_o2, came_some, goI, List.getElem?_cons_zero, List.getElem?_cons_succ, kn, keep, frameOf, size_mk, get_mk_lt, get_mk_ge, Eff.app, Heap.setOwn, putAt, AV.cells, fillA, loadA, takeA, mk, Eff.isAll, Eff.isNone, Eff.commutes, Eff.spares, okPair, apart, eqAgg, fits, LK.fits, allEq, aveq, eqk, mmA, beqT, wrapI, idxI, tdivI, tmodI, decT, decF, ibT, ibF, inT, inF, evScope_c, if_pos, if_neg, g0, g1, g2]
  exact t
theorem fit_4 (J : CallF) (h : Heap) : Tr tbl J c40_o4 (fun s h' => s.get [false, false] = .ptr h.size 0 2 ∧ s.get [false, true] = G n ∧ h' = HC62 h bA bR vA vR n) .normal (P40 h bA bR vA vR n 0) := by
  have t : Tr tbl J (c40_o4) (fun s h' => s.get [false, false] = .ptr h.size 0 2 ∧ s.get [false, true] = G n ∧ h' = HC62 h bA bR vA vR n) .normal (fun s h' => s.get [false, false] = .ptr h.size 0 2 ∧ s.get [false, true] = G n ∧ s.get [true, true] = G ((0 : Nat) : Int) ∧ h' = HC62 h bA bR vA vR n) := Tr.region fun s h hp => by
    obtain ⟨g0, g1, rfl⟩ := hp
    simp (disch := first | omega | exact getEq rfl | exact getO0 | exact Nat.le_of_ble_eq_true rfl) [c40_o4, came_some, goI, List.getElem?_cons_zero, List.getElem?_cons_succ, kn, keep, frameOf, size_mk, get_mk_lt, get_mk_ge, Eff.app, Heap.setOwn, putAt, AV.cells, fillA, loadA, takeA, mk, Eff.isAll, Eff.isNone, Eff.commutes, Eff.spares, okPair, apart, eqAgg, fits, LK.fits, allEq, aveq, eqk, mmA, beqT, wrapI, idxI, tdivI, tmodI, decT, decF, ibT, ibF, inT, inF, evScope_c, if_pos, if_neg, g0, g1]
  exact t
theorem fit_10 (J : CallF) (h : Heap) {p q : Int} (m1 : h.get bA = .cells 1 vA ca) (m2 : h.get bR = .cells 1 vR cr) (hn : 1 ≤ n) (hn2 : n ≤ 36) (hca : ca[n - 1]? = some (G p)) (hcr : cr[n - 1]? = some (G q)) (hp : -1 ≤ p ∧ p ≤ 100) : Tr tbl J (.seq c40_o10 .ret) (fun s h' => s.get [false, false] = .ptr h.size 0 2 ∧ s.get [false, true] = G n ∧ h' = HC62 h bA bR vA vR n) .ret (fun s h => s.get [true, false] = .bool (decide (q = p + 1))) := by
  have l1 := get_lt m1 (by simp)
  have l2 := get_lt m2 (by simp)
  have e1 : ((n : Int) - 1).toNat = n - 1 := by omega
  have t : Tr tbl J ((.seq c40_o10 .ret)) (fun s h' => s.get [false, false] = .ptr h.size 0 2 ∧ s.get [false, true] = G n ∧ h' = HC62 h bA bR vA vR n) .ret (fun s h => s.get [true, false] = .bool (decide (q = p + 1))) := Tr.region fun s h hp => by
    obtain ⟨g0, g1, rfl⟩ := hp
    simp (disch := first | omega | exact getEq rfl | exact getO0 | exact Nat.le_of_ble_eq_true rfl) [c40_o10, came_some, goI, List.getElem?_cons_zero, List.getElem?_cons_succ, kn, keep, frameOf, size_mk, get_mk_lt, get_mk_ge, Eff.app, Heap.setOwn, putAt, AV.cells, fillA, loadA, takeA, mk, Eff.isAll, Eff.isNone, Eff.commutes, Eff.spares, okPair, apart, eqAgg, fits, LK.fits, allEq, aveq, eqk, mmA, beqT, wrapI, idxI, tdivI, tmodI, decT, decF, ibT, ibF, inT, inF, evScope_c, if_pos, if_neg, g0, g1, m1, m2, hca, hcr, e1]
    exact Bool.eq_iff_iff.2 (by simp)
  exact t

open Classical in
theorem c40_all (J : CallF) (hJ : ∀ a h, J 40 a h = none) (h : Heap) (x y : AV) (hx : listOf h x = some A) (hy : listOf h y = some R) (hl : lot ≤ 36) : CallsTo tbl J 40 [G lot, .agg [x, y]] h (.bool (decide (crsOk lot A R)), [], false) := by
  refine Tr.fnv (cf := c40) (e := .ret) (s := T.set (T.set .leaf [] (G lot)) [false] (.agg [x, y])) (by decide) rfl (hJ _ _) rfl rfl rfl (by simp) ?_
  refine Tr.post (Q := (fun s h => s.get [true, false] = .bool (decide (crsOk lot A R)))) (fun s h q => by simp [c40, q]) ?_
  by_cases h1 : 1 ≤ (A.length : Int) ∧ (A.length : Int) ≤ lot
  · rcases listOf_some hx with ⟨rfl, rfl⟩ | ⟨bA, vA, rfl, gA⟩
    · simp at h1
    · rcases listOf_some hy with ⟨rfl, rfl⟩ | ⟨bR, vR, rfl, gR⟩
      · rw [decide_eq_false (fun q => by obtain ⟨_, q2, _⟩ := q; simp at q2; omega)]
        exact Tr.app2 (fit_sl J h _) (Tr.seq_out (fit_badn J h _ (by omega)) (by simp))
      · by_cases h2 : R.length = A.length
        · obtain ⟨n, hn⟩ : ∃ n, A.length = n := ⟨_, rfl⟩
          rw [h2]
          rw [hn] at h1 h2 ⊢
          have hca : ∀ i : Nat, i < n → (A.map fun n => AV.int .i64 n)[i]? = some (G (A.getD i 0)) := fun i hi => by
            rw [List.getElem?_map, List.getElem?_eq_getElem (by omega), List.getD_eq_getElem?_getD, List.getElem?_eq_getElem (by omega)]; rfl
          have hcr : ∀ i : Nat, i < n → (R.map fun n => AV.int .i64 n)[i]? = some (G (R.getD i 0)) := fun i hi => by
            rw [List.getElem?_map, List.getElem?_eq_getElem (by omega), List.getD_eq_getElem?_getD, List.getElem?_eq_getElem (by omega)]; rfl
          obtain ⟨l1, l2⟩ := fit_loop J h gA gR hca hcr (by omega) n 0 (by omega)
          have hc : crsOk lot A R ↔ ((∀ i, i < n → stepOk n A R i) ∧ R.getD (n - 1) 0 = A.getD (n - 1) 0 + 1) := by
            unfold crsOk; rw [hn]
            exact ⟨fun q => q.2.2, fun q => ⟨by omega, h2, q⟩⟩
          by_cases h3 : ∀ i, i < n → stepOk n A R i
          · have s1 := h3 (n - 1) (by omega)
            unfold stepOk at s1
            rw [show decide (crsOk lot A R) = decide (R.getD (n - 1) 0 = A.getD (n - 1) 0 + 1) from decide_eq_decide.2 ⟨fun q => (hc.1 q).2, fun q => hc.2 ⟨h3, q⟩⟩]
            exact Tr.app2 (fit_sl J h _) (Tr.seq (fit_same J h h1) (Tr.seq (Tr.seq (fit_4 J h) (Tr.block (l1 (fun k _ hk => h3 k hk)))) (fit_10 J h gA gR (by omega) (by omega) (hca _ (by omega)) (hcr _ (by omega)) (by omega))))
          · rw [decide_eq_false (fun q => h3 (hc.1 q).1)]
            exact Tr.app2 (fit_sl J h _) (Tr.seq (fit_same J h h1) (Tr.seq_out (Tr.seq (fit_4 J h) (Tr.block_out (l2 (fun q => h3 fun k hk => q k (by omega) hk)) (by simp))) (by simp)))
        · rw [decide_eq_false (fun q => h2 q.2.1)]
          exact Tr.app2 (fit_sl J h _) (Tr.seq_out (fit_bads J h _ (by omega)) (by simp))
  · rw [decide_eq_false (fun q => h1 ⟨by have := q.1.1; omega, q.1.2⟩)]
    rcases listOf_some hx with ⟨rfl, rfl⟩ | ⟨bA, vA, rfl, gA⟩ <;> rcases listOf_some hy with ⟨rfl, rfl⟩ | ⟨bR, vR, rfl, gR⟩
    · exact Tr.app2 (fit_nil J h _) (Tr.seq_out (fit_badn J h _ (by omega)) (by simp))
    · exact Tr.app2 (fit_nil J h _) (Tr.seq_out (fit_bads J h _ (by omega)) (by simp))
    · exact Tr.app2 (fit_sl J h _) (Tr.seq_out (fit_badn J h _ (by omega)) (by simp))
    · exact Tr.app2 (fit_sl J h _) (Tr.seq_out (fit_bads J h _ (by omega)) (by simp))
end

/-! ### Decide -/
def decZ (a r k : Int) : Int := if k ≤ a then 1 else if r ≤ k then -1 else 0
section
variable {bA bR nA vA nR vR : Nat} {k a r : Int} {j : Nat} {c1 c2 : List AV}
theorem c65_ok (J : CallF) (hJ : ∀ a h, J 65 a h = none) (h : Heap) (h2 : j < 1000) (h3 : j < nA) (h4 : j < nR) (g1 : h.get bA = .cells 1 vA c1) (g2 : h.get bR = .cells 1 vR c2) (x1 : c1[j]? = some (G a)) (x2 : c2[j]? = some (G r)) :
    CallsTo tbl J 65 [.agg [.slice bA 0 nA vA, .slice bR 0 nR vR], G ((j + 1 : Nat) : Int), G k] h (G (decZ a r k), [], false) := by
  have l1 := get_lt g1 (by simp)
  have l2 := get_lt g2 (by simp)
  refine Tr.fnv (cf := c65) (e := .ret) (s := T.set (T.set (T.set .leaf [] (.agg [.slice bA 0 nA vA, .slice bR 0 nR vR])) [false] (G ((j + 1 : Nat) : Int))) [true] (G k)) (by decide) rfl (hJ _ _) rfl rfl rfl (by simp) ?_
  refine Tr.post (Q := (fun s h => s.get [true, true] = G (decZ a r k))) (fun s h q => by simp [c65, q]) ?_
  by_cases hk : k ≤ a
  · have e : decZ a r k = 1 := by unfold decZ; rw [if_pos hk]
    rw [e]
    have t : Tr tbl J ((.seq c65_o0 (.seq c65_o1 (.cond (.s [true, true, true]) (.seq c65_o2 .ret) .skip)))) (fun s h' => s = T.set (T.set (T.set .leaf [] (.agg [.slice bA 0 nA vA, .slice bR 0 nR vR])) [false] (G ((j + 1 : Nat) : Int))) [true] (G k) ∧ h' = frameOf h) .ret (fun s h => s.get [true, true] = G 1) := Tr.region fun s h hp => by
      obtain ⟨rfl, rfl⟩ := hp
      simp (disch := first | omega | exact getEq rfl | exact getO0 | exact Nat.le_of_ble_eq_true rfl) [c65_o0, c65_o1, c65_o2, frameOf, came_some, goI, List.getElem?_cons_zero, List.getElem?_cons_succ, kn, keep, frameOf, size_mk, get_mk_lt, get_mk_ge, Eff.app, Heap.setOwn, putAt, AV.cells, fillA, loadA, takeA, mk, Eff.isAll, Eff.isNone, Eff.commutes, Eff.spares, okPair, apart, eqAgg, fits, LK.fits, allEq, aveq, eqk, mmA, beqT, wrapI, idxI, tdivI, tmodI, decT, decF, ibT, ibF, inT, inF, evScope_c, if_pos, if_neg, g1, x1]
    exact Tr.assoc (Tr.seq_out t (by simp))
  · by_cases hr : r ≤ k
    · have e : decZ a r k = -1 := by unfold decZ; rw [if_neg hk, if_pos hr]
      rw [e]
      have t : Tr tbl J ((.seq c65_o0 (.seq (.seq c65_o1 (.cond (.s [true, true, true]) (.seq c65_o2 .ret) .skip)) (.seq c65_o3 (.cond (.s [true, true, true, false]) (.seq c65_o4 .ret) .skip))))) (fun s h' => s = T.set (T.set (T.set .leaf [] (.agg [.slice bA 0 nA vA, .slice bR 0 nR vR])) [false] (G ((j + 1 : Nat) : Int))) [true] (G k) ∧ h' = frameOf h) .ret (fun s h => s.get [true, true] = G (-1)) := Tr.region fun s h hp => by
        obtain ⟨rfl, rfl⟩ := hp
        simp (disch := first | omega | exact getEq rfl | exact getO0 | exact Nat.le_of_ble_eq_true rfl) [c65_o0, c65_o1, c65_o3, c65_o4, frameOf, came_some, goI, List.getElem?_cons_zero, List.getElem?_cons_succ, kn, keep, frameOf, size_mk, get_mk_lt, get_mk_ge, Eff.app, Heap.setOwn, putAt, AV.cells, fillA, loadA, takeA, mk, Eff.isAll, Eff.isNone, Eff.commutes, Eff.spares, okPair, apart, eqAgg, fits, LK.fits, allEq, aveq, eqk, mmA, beqT, wrapI, idxI, tdivI, tmodI, decT, decF, ibT, ibF, inT, inF, evScope_c, if_pos, if_neg, g1, x1, g2, x2]
      exact Tr.assoc (Tr.assoc (Tr.seq_out (Tr.assoc' t) (by simp)))
    · have e : decZ a r k = 0 := by unfold decZ; rw [if_neg hk, if_neg hr]
      rw [e]
      have t : Tr tbl J ((.seq c65_o0 (.seq (.seq c65_o1 (.cond (.s [true, true, true]) (.seq c65_o2 .ret) .skip)) (.seq c65_o3 (.cond (.s [true, true, true, false]) (.seq c65_o4 .ret) .skip))))) (fun s h' => s = T.set (T.set (T.set .leaf [] (.agg [.slice bA 0 nA vA, .slice bR 0 nR vR])) [false] (G ((j + 1 : Nat) : Int))) [true] (G k) ∧ h' = frameOf h) .normal (fun s h => True) := Tr.region fun s h hp => by
        obtain ⟨rfl, rfl⟩ := hp
        simp (disch := first | omega | exact getEq rfl | exact getO0 | exact Nat.le_of_ble_eq_true rfl) [c65_o0, c65_o1, c65_o3, frameOf, came_some, goI, List.getElem?_cons_zero, List.getElem?_cons_succ, kn, keep, frameOf, size_mk, get_mk_lt, get_mk_ge, Eff.app, Heap.setOwn, putAt, AV.cells, fillA, loadA, takeA, mk, Eff.isAll, Eff.isNone, Eff.commutes, Eff.spares, okPair, apart, eqAgg, fits, LK.fits, allEq, aveq, eqk, mmA, beqT, wrapI, idxI, tdivI, tmodI, decT, decF, ibT, ibF, inT, inF, evScope_c, if_pos, if_neg, g1, x1, g2, x2]
      have t2 : Tr tbl J ((.seq c65_o5 .ret)) (fun s h => True) .ret (fun s h => s.get [true, true] = G 0) := Tr.region fun s h hp => by
        simp (disch := first | omega | exact getEq rfl | exact getO0 | exact Nat.le_of_ble_eq_true rfl) [c65_o5, came_some, goI, List.getElem?_cons_zero, List.getElem?_cons_succ, kn, keep, frameOf, Heap.size, Heap.get, Eff.app, Heap.setOwn, putAt, AV.cells, fillA, loadA, takeA, mk, Eff.isAll, Eff.isNone, Eff.commutes, Eff.spares, okPair, apart, eqAgg, fits, LK.fits, allEq, aveq, eqk, mmA, beqT, wrapI, idxI, tdivI, tmodI, decT, decF, ibT, ibF, inT, inF, evScope_c, if_pos, if_neg]
      exact Tr.app3 t t2

end

end Go.Proofs.Ytlkgpcfhpeilhaa.Ev
