/-
  What isCourse answers of any two slices. No condition.
-/
import Derived.Test.YtlkgpcfhpeilhaaSHelp
set_option linter.unusedVariables false
set_option linter.unusedSimpArgs false
namespace Go.Proofs.Ytlkgpcfhpeilhaa.Ev
open Go Go.AEv

attribute [local simp] evFunc initS evOps_c evTrim_c evSkip_c evExit_c evRet_c evSeq_c evCond_c evBlock_c evDraw_c runOps_n runOps_c exec_n exec_g pure1_c act AOpd.ev T.get T.set T.put evBin evUn forceT_eq forceV_eq forceL_eq evRess evRes one keep runFP_n runFP_c app_none AV.flats AV.flat

/-- Is this a course for a lot? -/
def stepOk (n : Nat) (A R : List Int) (i : Nat) : Prop := -1 ≤ A.getD i 0 ∧ A.getD i 0 + 1 ≤ R.getD i 0 ∧ R.getD i 0 ≤ n + 1
def crsOk (lot : Int) (A R : List Int) : Prop := (1 ≤ A.length ∧ (A.length : Int) ≤ lot) ∧ R.length = A.length ∧ (∀ i, i < A.length → stepOk A.length A R i) ∧ R.getD (A.length - 1) 0 = A.getD (A.length - 1) 0 + 1

section
variable {lot : Int} {A R : List Int} {bA bR vA vR n : Nat} {ca cr : List AV}
abbrev HC62 (h : Heap) (bA bR vA vR n : Nat) : Heap := ⟨h.get, h.size, [.cells 0 2 [.slice bA 0 n vA, .slice bR 0 n vR]]⟩
abbrev P62 (h : Heap) (bA bR vA vR n i : Nat) : SP := (fun s h' => s.get [false, false] = .ptr h.size 0 2 ∧ s.get [false, true] = G n ∧ s.get [false, false, false, true] = .slice bA 0 n vA ∧ s.get [true, false, false, true] = G n ∧ s.get [false, true, false, true] = G i ∧ h' = HC62 h bA bR vA vR n)

theorem crs_loop (J : CallF) (K : Kn J) (h : Heap) (m1 : h.get bA = .cells 1 vA ca) (m2 : h.get bR = .cells 1 vR cr) (hca : ∀ i : Nat, i < n → ca[i]? = some (G (A.getD i 0))) (hcr : ∀ i : Nat, i < n → cr[i]? = some (G (R.getD i 0))) (hn : n ≤ 36) :
    ∀ j i, i + j = n → ((∀ k, i ≤ k → k < n → stepOk n A R k) → Tr tbl J c62_l0 (P62 h bA bR vA vR n i) (.exit 0) (fun s h' => s.get [false, false] = .ptr h.size 0 2 ∧ s.get [false, true] = G n ∧ h' = HC62 h bA bR vA vR n)) ∧ ((¬ ∀ k, i ≤ k → k < n → stepOk n A R k) → Tr tbl J c62_l0 (P62 h bA bR vA vR n i) .ret (fun s h => s.get [true, false] = .bool false)) := by
  have l1 := get_lt m1 (by simp)
  have l2 := get_lt m2 (by simp)
  intro j
  induction j with
  | zero =>
    intro i hi
    obtain rfl : i = n := by omega
    refine ⟨fun _ => ?_, fun hne => absurd (fun k h1 h2 => by omega) hne⟩
    have t : Tr tbl J ((.trim [[false, false], [false, true], [false, false, false, true], [true, false, false, true], [false, true, false, true]] c62_b0)) (fun s h' => s.get [false, false] = .ptr h.size 0 2 ∧ s.get [false, true] = G i ∧ s.get [false, false, false, true] = .slice bA 0 i vA ∧ s.get [true, false, false, true] = G i ∧ s.get [false, true, false, true] = G i ∧ h' = HC62 h bA bR vA vR i) (.exit 0) (fun s h' => s.get [false, false] = .ptr h.size 0 2 ∧ s.get [false, true] = G i ∧ h' = HC62 h bA bR vA vR i) := Tr.region fun s h hp => by
      obtain ⟨g0, g1, g2, g3, g4, rfl⟩ := hp
      simp (disch := first | omega | exact getEq rfl | exact getO0 | exact Nat.le_of_ble_eq_true rfl) [c62_b0, c62_o5, came_some, goI, List.getElem?_cons_zero, List.getElem?_cons_succ, kn, keep, frameOf, size_mk, get_mk_lt, get_mk_ge, Eff.app, Heap.setOwn, putAt, AV.cells, fillA, loadA, takeA, mk, Eff.isAll, Eff.isNone, Eff.commutes, Eff.spares, okPair, apart, eqAgg, fits, LK.fits, allEq, aveq, eqk, mmA, beqT, wrapI, idxI, tdivI, tmodI, decT, decF, ibT, ibF, inT, inF, evScope_c, if_pos, if_neg, g0, g1, g2, g3, g4]
    exact Tr.out t (by simp)
  | succ j ih =>
    intro i hi
    have xa := hca i (by omega)
    have xr := hcr i (by omega)
    have ih' := ih (i + 1) (by omega)
    clear hca hcr ih
    by_cases hs : stepOk n A R i
    · have hs' := hs
      obtain ⟨s1, s2, s3⟩ := hs'
      have hiff : (∀ k, i ≤ k → k < n → stepOk n A R k) ↔ (∀ k, i + 1 ≤ k → k < n → stepOk n A R k) :=
        ⟨fun q k h1 h2 => q k (by omega) h2, fun q k h1 h2 => by
          by_cases hk : k = i
          · subst hk; exact hs
          · exact q k (by omega) h2⟩
      rw [hiff]
      generalize A.getD i 0 = p at *
      generalize R.getD i 0 = q at *
      have t : Tr tbl J ((.trim [[false, false], [false, true], [false, false, false, true], [true, false, false, true], [false, true, false, true]] c62_b0)) (fun s h' => s.get [false, false] = .ptr h.size 0 2 ∧ s.get [false, true] = G n ∧ s.get [false, false, false, true] = .slice bA 0 n vA ∧ s.get [true, false, false, true] = G n ∧ s.get [false, true, false, true] = G i ∧ h' = HC62 h bA bR vA vR n) .normal (fun s h' => s.get [false, false] = .ptr h.size 0 2 ∧ s.get [false, true] = G n ∧ s.get [false, false, false, true] = .slice bA 0 n vA ∧ s.get [true, false, false, true] = G n ∧ s.get [false, true, false, true] = G ((i + 1 : Nat) : Int) ∧ h' = HC62 h bA bR vA vR n) := Tr.region fun s h hp => by
        obtain ⟨g0, g1, g2, g3, g4, rfl⟩ := hp
        simp (disch := first | omega | exact getEq rfl | exact getO0 | exact Nat.le_of_ble_eq_true rfl) [c62_b0, c62_o5, c62_o6, c62_o7, c62_o9, came_some, goI, List.getElem?_cons_zero, List.getElem?_cons_succ, kn, keep, frameOf, size_mk, get_mk_lt, get_mk_ge, Eff.app, Heap.setOwn, putAt, AV.cells, fillA, loadA, takeA, mk, Eff.isAll, Eff.isNone, Eff.commutes, Eff.spares, okPair, apart, eqAgg, fits, LK.fits, allEq, aveq, eqk, mmA, beqT, wrapI, idxI, tdivI, tmodI, decT, decF, ibT, ibF, inT, inF, evScope_c, if_pos, if_neg, g0, g1, g2, g3, g4, m1, m2, xa, xr, K.k67]
      exact ⟨fun e => Tr.next t (ih'.1 e), fun e => Tr.next t (ih'.2 e)⟩
    · refine ⟨fun e => absurd (e i (by omega) (by omega)) hs, fun _ => ?_⟩
      have hs' : ¬ (-1 ≤ A.getD i 0 ∧ A.getD i 0 ≤ n + 1) ∨ ((-1 ≤ A.getD i 0 ∧ A.getD i 0 ≤ n + 1) ∧ ¬ (A.getD i 0 + 1 ≤ R.getD i 0 ∧ R.getD i 0 ≤ n + 1)) := by
        unfold stepOk at hs; omega
      clear hs ih'
      generalize A.getD i 0 = p at *
      generalize R.getD i 0 = q at *
      have t : Tr tbl J (.trim [[false, false], [false, true], [false, false, false, true], [true, false, false, true], [false, true, false, true]] c62_b0) (P62 h bA bR vA vR n i) .ret (fun s h => s.get [true, false] = .bool false) := by
        rcases hs' with h1 | ⟨h1, h2⟩
        ·
          have t : Tr tbl J ((.trim [[false, false], [false, true], [false, false, false, true], [true, false, false, true], [false, true, false, true]] c62_b0)) (fun s h' => s.get [false, false] = .ptr h.size 0 2 ∧ s.get [false, true] = G n ∧ s.get [false, false, false, true] = .slice bA 0 n vA ∧ s.get [true, false, false, true] = G n ∧ s.get [false, true, false, true] = G i ∧ h' = HC62 h bA bR vA vR n) .ret (fun s h => s.get [true, false] = .bool false) := Tr.region fun s h hp => by
            obtain ⟨g0, g1, g2, g3, g4, rfl⟩ := hp
            simp (disch := first | omega | exact getEq rfl | exact getO0 | exact Nat.le_of_ble_eq_true rfl) [c62_b0, c62_o5, c62_o6, c62_o7, c62_o8, came_some, goI, List.getElem?_cons_zero, List.getElem?_cons_succ, kn, keep, frameOf, size_mk, get_mk_lt, get_mk_ge, Eff.app, Heap.setOwn, putAt, AV.cells, fillA, loadA, takeA, mk, Eff.isAll, Eff.isNone, Eff.commutes, Eff.spares, okPair, apart, eqAgg, fits, LK.fits, allEq, aveq, eqk, mmA, beqT, wrapI, idxI, tdivI, tmodI, decT, decF, ibT, ibF, inT, inF, evScope_c, if_pos, if_neg, g0, g1, g2, g3, g4, m1, m2, xa, xr, K.k67, h1]
          exact t
        ·
          have t : Tr tbl J ((.trim [[false, false], [false, true], [false, false, false, true], [true, false, false, true], [false, true, false, true]] c62_b0)) (fun s h' => s.get [false, false] = .ptr h.size 0 2 ∧ s.get [false, true] = G n ∧ s.get [false, false, false, true] = .slice bA 0 n vA ∧ s.get [true, false, false, true] = G n ∧ s.get [false, true, false, true] = G i ∧ h' = HC62 h bA bR vA vR n) .ret (fun s h => s.get [true, false] = .bool false) := Tr.region fun s h hp => by
            obtain ⟨g0, g1, g2, g3, g4, rfl⟩ := hp
            simp (disch := first | omega | exact getEq rfl | exact getO0 | exact Nat.le_of_ble_eq_true rfl) [c62_b0, c62_o5, c62_o6, c62_o7, c62_o8, came_some, goI, List.getElem?_cons_zero, List.getElem?_cons_succ, kn, keep, frameOf, size_mk, get_mk_lt, get_mk_ge, Eff.app, Heap.setOwn, putAt, AV.cells, fillA, loadA, takeA, mk, Eff.isAll, Eff.isNone, Eff.commutes, Eff.spares, okPair, apart, eqAgg, fits, LK.fits, allEq, aveq, eqk, mmA, beqT, wrapI, idxI, tdivI, tmodI, decT, decF, ibT, ibF, inT, inF, evScope_c, if_pos, if_neg, g0, g1, g2, g3, g4, m1, m2, xa, xr, K.k67, h1, h2]
          exact t
      exact Tr.out t (by simp)

abbrev HX62 (h : Heap) (x y : AV) : Heap := ⟨h.get, h.size, [.cells 0 2 [x, y]]⟩
theorem crs_nil (J : CallF) (h : Heap) (y : AV) : Tr tbl J (.seq c62_o0 c62_o1) (fun s h' => s = T.set (T.set .leaf [] (G lot)) [false] (.agg [.nils, y]) ∧ h' = frameOf h) .normal (fun s h' => s.get [] = G lot ∧ s.get [false, false] = .ptr h.size 0 2 ∧ s.get [false, true] = G ((0 : Nat) : Int) ∧ h' = HX62 h .nils y) := by
  have t : Tr tbl J ((.seq c62_o0 c62_o1)) (fun s h' => s = T.set (T.set .leaf [] (G lot)) [false] (.agg [.nils, y]) ∧ h' = frameOf h) .normal (fun s h' => s.get [] = G lot ∧ s.get [false, false] = .ptr h.size 0 2 ∧ s.get [false, true] = G ((0 : Nat) : Int) ∧ h' = HX62 h .nils y) := Tr.region fun s h hp => by
    obtain ⟨rfl, rfl⟩ := hp
    simp (disch := first | omega | exact getEq rfl | exact getO0 | exact Nat.le_of_ble_eq_true rfl) [c62_o0, c62_o1, frameOf, came_some, goI, List.getElem?_cons_zero, List.getElem?_cons_succ, kn, keep, frameOf, size_mk, get_mk_lt, get_mk_ge, Eff.app, Heap.setOwn, putAt, AV.cells, fillA, loadA, takeA, mk, Eff.isAll, Eff.isNone, Eff.commutes, Eff.spares, okPair, apart, eqAgg, fits, LK.fits, allEq, aveq, eqk, mmA, beqT, wrapI, idxI, tdivI, tmodI, decT, decF, ibT, ibF, inT, inF, evScope_c, if_pos, if_neg]
  exact t
theorem crs_sl (J : CallF) (h : Heap) (y : AV) : Tr tbl J (.seq c62_o0 c62_o1) (fun s h' => s = T.set (T.set .leaf [] (G lot)) [false] (.agg [.slice bA 0 n vA, y]) ∧ h' = frameOf h) .normal (fun s h' => s.get [] = G lot ∧ s.get [false, false] = .ptr h.size 0 2 ∧ s.get [false, true] = G n ∧ h' = HX62 h (.slice bA 0 n vA) y) := by
  have t : Tr tbl J ((.seq c62_o0 c62_o1)) (fun s h' => s = T.set (T.set .leaf [] (G lot)) [false] (.agg [.slice bA 0 n vA, y]) ∧ h' = frameOf h) .normal (fun s h' => s.get [] = G lot ∧ s.get [false, false] = .ptr h.size 0 2 ∧ s.get [false, true] = G n ∧ h' = HX62 h (.slice bA 0 n vA) y) := Tr.region fun s h hp => by
    obtain ⟨rfl, rfl⟩ := hp
    simp (disch := first | omega | exact getEq rfl | exact getO0 | exact Nat.le_of_ble_eq_true rfl) [c62_o0, c62_o1, frameOf, came_some, goI, List.getElem?_cons_zero, List.getElem?_cons_succ, kn, keep, frameOf, size_mk, get_mk_lt, get_mk_ge, Eff.app, Heap.setOwn, putAt, AV.cells, fillA, loadA, takeA, mk, Eff.isAll, Eff.isNone, Eff.commutes, Eff.spares, okPair, apart, eqAgg, fits, LK.fits, allEq, aveq, eqk, mmA, beqT, wrapI, idxI, tdivI, tmodI, decT, decF, ibT, ibF, inT, inF, evScope_c, if_pos, if_neg]
  exact t
/-- The length is not one of the lot. -/
theorem crs_bad1 (J : CallF) (K : Kn J) (h : Heap) (x y : AV) (hn : ¬ (1 ≤ (n : Int) ∧ (n : Int) ≤ lot)) : Tr tbl J (.seq c62_o2 (.cond (.s [false, true, true, false]) (.seq c62_o3 .ret) .skip)) (fun s h' => s.get [] = G lot ∧ s.get [false, false] = .ptr h.size 0 2 ∧ s.get [false, true] = G n ∧ h' = HX62 h x y) .ret (fun s h => s.get [true, false] = .bool false) := by
  have t : Tr tbl J ((.seq c62_o2 (.cond (.s [false, true, true, false]) (.seq c62_o3 .ret) .skip))) (fun s h' => s.get [] = G lot ∧ s.get [false, false] = .ptr h.size 0 2 ∧ s.get [false, true] = G n ∧ h' = HX62 h x y) .ret (fun s h => s.get [true, false] = .bool false) := Tr.region fun s h hp => by
    obtain ⟨g0, g1, g2, rfl⟩ := hp
    simp (disch := first | omega | exact getEq rfl | exact getO0 | exact Nat.le_of_ble_eq_true rfl) [c62_o2, c62_o3, came_some, goI, List.getElem?_cons_zero, List.getElem?_cons_succ, kn, keep, frameOf, size_mk, get_mk_lt, get_mk_ge, Eff.app, Heap.setOwn, putAt, AV.cells, fillA, loadA, takeA, mk, Eff.isAll, Eff.isNone, Eff.commutes, Eff.spares, okPair, apart, eqAgg, fits, LK.fits, allEq, aveq, eqk, mmA, beqT, wrapI, idxI, tdivI, tmodI, decT, decF, ibT, ibF, inT, inF, evScope_c, if_pos, if_neg, g0, g1, g2, K.k67, hn]
  exact t
/-- The lengths are not the same. -/
theorem crs_bad2n (J : CallF) (K : Kn J) (h : Heap) (x : AV) (hn : 1 ≤ (n : Int) ∧ (n : Int) ≤ lot) : Tr tbl J (.seq c62_o2 (.cond (.s [false, true, true, false]) (.seq c62_o3 .ret) .skip)) (fun s h' => s.get [] = G lot ∧ s.get [false, false] = .ptr h.size 0 2 ∧ s.get [false, true] = G n ∧ h' = HX62 h x .nils) .ret (fun s h => s.get [true, false] = .bool false) := by
  have t : Tr tbl J ((.seq c62_o2 (.cond (.s [false, true, true, false]) (.seq c62_o3 .ret) .skip))) (fun s h' => s.get [] = G lot ∧ s.get [false, false] = .ptr h.size 0 2 ∧ s.get [false, true] = G n ∧ h' = HX62 h x .nils) .ret (fun s h => s.get [true, false] = .bool false) := Tr.region fun s h hp => by
    obtain ⟨g0, g1, g2, rfl⟩ := hp
    simp (disch := first | omega | exact getEq rfl | exact getO0 | exact Nat.le_of_ble_eq_true rfl) [c62_o2, c62_o3, came_some, goI, List.getElem?_cons_zero, List.getElem?_cons_succ, kn, keep, frameOf, size_mk, get_mk_lt, get_mk_ge, Eff.app, Heap.setOwn, putAt, AV.cells, fillA, loadA, takeA, mk, Eff.isAll, Eff.isNone, Eff.commutes, Eff.spares, okPair, apart, eqAgg, fits, LK.fits, allEq, aveq, eqk, mmA, beqT, wrapI, idxI, tdivI, tmodI, decT, decF, ibT, ibF, inT, inF, evScope_c, if_pos, if_neg, g0, g1, g2, K.k67, hn]
  exact t
theorem crs_bad2s (J : CallF) (K : Kn J) (h : Heap) (x : AV) {m : Nat} (hn : 1 ≤ (n : Int) ∧ (n : Int) ≤ lot) (hm : m ≠ n) : Tr tbl J (.seq c62_o2 (.cond (.s [false, true, true, false]) (.seq c62_o3 .ret) .skip)) (fun s h' => s.get [] = G lot ∧ s.get [false, false] = .ptr h.size 0 2 ∧ s.get [false, true] = G n ∧ h' = HX62 h x (.slice bR 0 m vR)) .ret (fun s h => s.get [true, false] = .bool false) := by
  have hm' : (m : Int) ≠ n := by omega
  have t : Tr tbl J ((.seq c62_o2 (.cond (.s [false, true, true, false]) (.seq c62_o3 .ret) .skip))) (fun s h' => s.get [] = G lot ∧ s.get [false, false] = .ptr h.size 0 2 ∧ s.get [false, true] = G n ∧ h' = HX62 h x (.slice bR 0 m vR)) .ret (fun s h => s.get [true, false] = .bool false) := Tr.region fun s h hp => by
    obtain ⟨g0, g1, g2, rfl⟩ := hp
    simp (disch := first | omega | exact getEq rfl | exact getO0 | exact Nat.le_of_ble_eq_true rfl) [c62_o2, c62_o3, came_some, goI, List.getElem?_cons_zero, List.getElem?_cons_succ, kn, keep, frameOf, size_mk, get_mk_lt, get_mk_ge, Eff.app, Heap.setOwn, putAt, AV.cells, fillA, loadA, takeA, mk, Eff.isAll, Eff.isNone, Eff.commutes, Eff.spares, okPair, apart, eqAgg, fits, LK.fits, allEq, aveq, eqk, mmA, beqT, wrapI, idxI, tdivI, tmodI, decT, decF, ibT, ibF, inT, inF, evScope_c, if_pos, if_neg, g0, g1, g2, K.k67, hn]
  exact t
theorem crs_same (J : CallF) (K : Kn J) (h : Heap) (hn : 1 ≤ (n : Int) ∧ (n : Int) ≤ lot) : Tr tbl J (.seq c62_o2 (.cond (.s [false, true, true, false]) (.seq c62_o3 .ret) .skip)) (fun s h' => s.get [] = G lot ∧ s.get [false, false] = .ptr h.size 0 2 ∧ s.get [false, true] = G n ∧ h' = HC62 h bA bR vA vR n) .normal (fun s h' => s.get [false, false] = .ptr h.size 0 2 ∧ s.get [false, true] = G n ∧ h' = HC62 h bA bR vA vR n) := by
  have t : Tr tbl J ((.seq c62_o2 (.cond (.s [false, true, true, false]) (.seq c62_o3 .ret) .skip))) (fun s h' => s.get [] = G lot ∧ s.get [false, false] = .ptr h.size 0 2 ∧ s.get [false, true] = G n ∧ h' = HC62 h bA bR vA vR n) .normal (fun s h' => s.get [false, false] = .ptr h.size 0 2 ∧ s.get [false, true] = G n ∧ h' = HC62 h bA bR vA vR n) := Tr.region fun s h hp => by
    obtain ⟨g0, g1, g2, rfl⟩ := hp
    simp (disch := first | omega | exact getEq rfl | exact getO0 | exact Nat.le_of_ble_eq_true rfl) [c62_o2, came_some, goI, List.getElem?_cons_zero, List.getElem?_cons_succ, kn, keep, frameOf, size_mk, get_mk_lt, get_mk_ge, Eff.app, Heap.setOwn, putAt, AV.cells, fillA, loadA, takeA, mk, Eff.isAll, Eff.isNone, Eff.commutes, Eff.spares, okPair, apart, eqAgg, fits, LK.fits, allEq, aveq, eqk, mmA, beqT, wrapI, idxI, tdivI, tmodI, decT, decF, ibT, ibF, inT, inF, evScope_c, if_pos, if_neg, g0, g1, g2, K.k67, hn]
  exact t
theorem crs_4 (J : CallF) (h : Heap) : Tr tbl J c62_o4 (fun s h' => s.get [false, false] = .ptr h.size 0 2 ∧ s.get [false, true] = G n ∧ h' = HC62 h bA bR vA vR n) .normal (P62 h bA bR vA vR n 0) := by
  have t : Tr tbl J (c62_o4) (fun s h' => s.get [false, false] = .ptr h.size 0 2 ∧ s.get [false, true] = G n ∧ h' = HC62 h bA bR vA vR n) .normal (fun s h' => s.get [false, false] = .ptr h.size 0 2 ∧ s.get [false, true] = G n ∧ s.get [false, false, false, true] = .slice bA 0 n vA ∧ s.get [true, false, false, true] = G n ∧ s.get [false, true, false, true] = G ((0 : Nat) : Int) ∧ h' = HC62 h bA bR vA vR n) := Tr.region fun s h hp => by
    obtain ⟨g0, g1, rfl⟩ := hp
    simp (disch := first | omega | exact getEq rfl | exact getO0 | exact Nat.le_of_ble_eq_true rfl) [c62_o4, came_some, goI, List.getElem?_cons_zero, List.getElem?_cons_succ, kn, keep, frameOf, size_mk, get_mk_lt, get_mk_ge, Eff.app, Heap.setOwn, putAt, AV.cells, fillA, loadA, takeA, mk, Eff.isAll, Eff.isNone, Eff.commutes, Eff.spares, okPair, apart, eqAgg, fits, LK.fits, allEq, aveq, eqk, mmA, beqT, wrapI, idxI, tdivI, tmodI, decT, decF, ibT, ibF, inT, inF, evScope_c, if_pos, if_neg, g0, g1]
  exact t
theorem crs_10 (J : CallF) (h : Heap) {p q : Int} (m1 : h.get bA = .cells 1 vA ca) (m2 : h.get bR = .cells 1 vR cr) (hn : 1 ≤ n) (hn2 : n ≤ 36) (hca : ca[n - 1]? = some (G p)) (hcr : cr[n - 1]? = some (G q)) (hp : -1 ≤ p ∧ p ≤ 100) : Tr tbl J (.seq c62_o10 .ret) (fun s h' => s.get [false, false] = .ptr h.size 0 2 ∧ s.get [false, true] = G n ∧ h' = HC62 h bA bR vA vR n) .ret (fun s h => s.get [true, false] = .bool (decide (q = p + 1))) := by
  have l1 := get_lt m1 (by simp)
  have l2 := get_lt m2 (by simp)
  have e1 : ((n : Int) - 1).toNat = n - 1 := by omega
  have t : Tr tbl J ((.seq c62_o10 .ret)) (fun s h' => s.get [false, false] = .ptr h.size 0 2 ∧ s.get [false, true] = G n ∧ h' = HC62 h bA bR vA vR n) .ret (fun s h => s.get [true, false] = .bool (decide (q = p + 1))) := Tr.region fun s h hp => by
    obtain ⟨g0, g1, rfl⟩ := hp
    simp (disch := first | omega | exact getEq rfl | exact getO0 | exact Nat.le_of_ble_eq_true rfl) [c62_o10, came_some, goI, List.getElem?_cons_zero, List.getElem?_cons_succ, kn, keep, frameOf, size_mk, get_mk_lt, get_mk_ge, Eff.app, Heap.setOwn, putAt, AV.cells, fillA, loadA, takeA, mk, Eff.isAll, Eff.isNone, Eff.commutes, Eff.spares, okPair, apart, eqAgg, fits, LK.fits, allEq, aveq, eqk, mmA, beqT, wrapI, idxI, tdivI, tmodI, decT, decF, ibT, ibF, inT, inF, evScope_c, if_pos, if_neg, g0, g1, m1, m2, hca, hcr, e1]
    exact Bool.eq_iff_iff.2 (by simp)
  exact t

open Classical in
theorem c62_ok (J : CallF) (K : Kn J) (hJ : ∀ a h, J 62 a h = none) (h : Heap) (x y : AV) (hx : listOf h x = some A) (hy : listOf h y = some R) (hl : lot ≤ 36) : CallsTo tbl J 62 [G lot, .agg [x, y]] h (.bool (decide (crsOk lot A R)), [], false) := by
  refine Tr.fnv (cf := c62) (e := .ret) (s := T.set (T.set .leaf [] (G lot)) [false] (.agg [x, y])) (by decide) rfl (hJ _ _) rfl rfl rfl (by simp) ?_
  refine Tr.post (Q := (fun s h => s.get [true, false] = .bool (decide (crsOk lot A R)))) (fun s h q => by simp [c62, q]) ?_
  by_cases h1 : 1 ≤ (A.length : Int) ∧ (A.length : Int) ≤ lot
  · rcases listOf_some hx with ⟨rfl, rfl⟩ | ⟨bA, vA, rfl, gA⟩
    · simp at h1
    · rcases listOf_some hy with ⟨rfl, rfl⟩ | ⟨bR, vR, rfl, gR⟩
      · rw [decide_eq_false (fun q => by obtain ⟨_, q2, _⟩ := q; simp at q2; omega)]
        exact Tr.app2 (crs_sl J h _) (Tr.seq_out (crs_bad2n J K h _ h1) (by simp))
      · by_cases h2 : R.length = A.length
        · obtain ⟨n, hn⟩ : ∃ n, A.length = n := ⟨_, rfl⟩
          rw [h2]
          rw [hn] at h1 h2 ⊢
          have hca : ∀ i : Nat, i < n → (A.map fun n => AV.int .i64 n)[i]? = some (G (A.getD i 0)) := fun i hi => by
            rw [List.getElem?_map, List.getElem?_eq_getElem (by omega), List.getD_eq_getElem?_getD, List.getElem?_eq_getElem (by omega)]; rfl
          have hcr : ∀ i : Nat, i < n → (R.map fun n => AV.int .i64 n)[i]? = some (G (R.getD i 0)) := fun i hi => by
            rw [List.getElem?_map, List.getElem?_eq_getElem (by omega), List.getD_eq_getElem?_getD, List.getElem?_eq_getElem (by omega)]; rfl
          obtain ⟨l1, l2⟩ := crs_loop J K h gA gR hca hcr (by omega) n 0 (by omega)
          have hc : crsOk lot A R ↔ ((∀ i, i < n → stepOk n A R i) ∧ R.getD (n - 1) 0 = A.getD (n - 1) 0 + 1) := by
            unfold crsOk; rw [hn]
            exact ⟨fun q => q.2.2, fun q => ⟨by omega, h2, q⟩⟩
          by_cases h3 : ∀ i, i < n → stepOk n A R i
          · have s1 := h3 (n - 1) (by omega)
            unfold stepOk at s1
            rw [show decide (crsOk lot A R) = decide (R.getD (n - 1) 0 = A.getD (n - 1) 0 + 1) from decide_eq_decide.2 ⟨fun q => (hc.1 q).2, fun q => hc.2 ⟨h3, q⟩⟩]
            exact Tr.app2 (crs_sl J h _) (Tr.seq (crs_same J K h h1) (Tr.seq (Tr.seq (crs_4 J h) (Tr.block (l1 (fun k _ hk => h3 k hk)))) (crs_10 J h gA gR (by omega) (by omega) (hca _ (by omega)) (hcr _ (by omega)) (by omega))))
          · rw [decide_eq_false (fun q => h3 (hc.1 q).1)]
            exact Tr.app2 (crs_sl J h _) (Tr.seq (crs_same J K h h1) (Tr.seq_out (Tr.seq (crs_4 J h) (Tr.block_out (l2 (fun q => h3 fun k hk => q k (by omega) hk)) (by simp))) (by simp)))
        · rw [decide_eq_false (fun q => h2 q.2.1)]
          exact Tr.app2 (crs_sl J h _) (Tr.seq_out (crs_bad2s J K h _ h1 (by omega)) (by simp))
  · rw [decide_eq_false (fun q => h1 ⟨by have := q.1.1; omega, q.1.2⟩)]
    rcases listOf_some hx with ⟨rfl, rfl⟩ | ⟨bA, vA, rfl, gA⟩
    · exact Tr.app2 (crs_nil J h _) (Tr.seq_out (crs_bad1 J K h _ _ h1) (by simp))
    · exact Tr.app2 (crs_sl J h _) (Tr.seq_out (crs_bad1 J K h _ _ h1) (by simp))

open Classical in
/-- Fits. -/
theorem c33_ok (J : CallF) (K : Kn J) (k62 : ∀ (h : Heap) (lot : Int) (x y : AV) (A R : List Int), listOf h x = some A → listOf h y = some R → lot ≤ 36 → J 62 [G lot, .agg [x, y]] h = some (.bool (decide (crsOk lot A R)), [], false)) (hJ : ∀ a h, J 33 a h = none) (h : Heap) (x y : AV) (hx : listOf h x = some A) (hy : listOf h y = some R) : CallsTo tbl J 33 [G lot, .agg [x, y]] h (G (if lotOk lot 0 ∧ crsOk lot A R then 0 else 2), [], false) := by
  have hx' : ∀ own, listOf ⟨h.get, h.size, own⟩ x = some A := fun own => by
    rcases listOf_some hx with ⟨rfl, rfl⟩ | ⟨b, v, rfl, g⟩
    · rfl
    · exact listOf_cells (by rw [get_mk_lt _ _ _ _ (get_lt g (by simp))]; exact g) rfl
  have hy' : ∀ own, listOf ⟨h.get, h.size, own⟩ y = some R := fun own => by
    rcases listOf_some hy with ⟨rfl, rfl⟩ | ⟨b, v, rfl, g⟩
    · rfl
    · exact listOf_cells (by rw [get_mk_lt _ _ _ _ (get_lt g (by simp))]; exact g) rfl
  refine Tr.fnv (cf := c33) (e := .ret) (s := T.set (T.set .leaf [] (G lot)) [false] (.agg [x, y])) (by decide) rfl (hJ _ _) rfl rfl rfl (by simp) ?_
  refine Tr.post (Q := (fun s h => s.get [true, false] = G (if lotOk lot 0 ∧ crsOk lot A R then 0 else 2))) (fun s h q => by simp [c33, q]) ?_
  by_cases h1 : lotOk lot 0
  · have h36 : lot ≤ 36 := by unfold lotOk at h1; omega
    have hk := k62 ⟨h.get, h.size, [.cells 0 2 [x, y]]⟩ lot x y A R (hx' _) (hy' _) h36
    by_cases h2 : crsOk lot A R
    · rw [if_pos ⟨h1, h2⟩]
      rw [decide_eq_true h2] at hk
      have t : Tr tbl J ((.seq c33_o0 (.seq (.seq c33_o1 (.cond (.s [false, true, true]) (.seq c33_o2 .ret) .skip)) (.seq c33_o3 .ret)))) (fun s h' => s = T.set (T.set .leaf [] (G lot)) [false] (.agg [x, y]) ∧ h' = frameOf h) .ret (fun s h => s.get [true, false] = G 0) := Tr.region fun s h hp => by
        obtain ⟨rfl, rfl⟩ := hp
        simp (disch := first | omega | exact getEq rfl | exact getO0 | exact Nat.le_of_ble_eq_true rfl) [c33_o0, c33_o1, c33_o2, c33_o3, frameOf, came_some, goI, List.getElem?_cons_zero, List.getElem?_cons_succ, kn, keep, frameOf, size_mk, get_mk_lt, get_mk_ge, Eff.app, Heap.setOwn, putAt, AV.cells, fillA, loadA, takeA, mk, Eff.isAll, Eff.isNone, Eff.commutes, Eff.spares, okPair, apart, eqAgg, fits, LK.fits, allEq, aveq, eqk, mmA, beqT, wrapI, idxI, tdivI, tmodI, decT, decF, ibT, ibF, inT, inF, evScope_c, if_pos, if_neg, K.k52, h1, hk]
      exact t
    · rw [if_neg (fun q => h2 q.2)]
      rw [decide_eq_false h2] at hk
      have t : Tr tbl J ((.seq c33_o0 (.seq (.seq c33_o1 (.cond (.s [false, true, true]) (.seq c33_o2 .ret) .skip)) (.seq c33_o3 .ret)))) (fun s h' => s = T.set (T.set .leaf [] (G lot)) [false] (.agg [x, y]) ∧ h' = frameOf h) .ret (fun s h => s.get [true, false] = G 2) := Tr.region fun s h hp => by
        obtain ⟨rfl, rfl⟩ := hp
        simp (disch := first | omega | exact getEq rfl | exact getO0 | exact Nat.le_of_ble_eq_true rfl) [c33_o0, c33_o1, c33_o2, c33_o3, frameOf, came_some, goI, List.getElem?_cons_zero, List.getElem?_cons_succ, kn, keep, frameOf, size_mk, get_mk_lt, get_mk_ge, Eff.app, Heap.setOwn, putAt, AV.cells, fillA, loadA, takeA, mk, Eff.isAll, Eff.isNone, Eff.commutes, Eff.spares, okPair, apart, eqAgg, fits, LK.fits, allEq, aveq, eqk, mmA, beqT, wrapI, idxI, tdivI, tmodI, decT, decF, ibT, ibF, inT, inF, evScope_c, if_pos, if_neg, K.k52, h1, hk]
      exact t
  · rw [if_neg (fun q => h1 q.1)]
    have t : Tr tbl J ((.seq c33_o0 (.seq (.seq c33_o1 (.cond (.s [false, true, true]) (.seq c33_o2 .ret) .skip)) (.seq c33_o3 .ret)))) (fun s h' => s = T.set (T.set .leaf [] (G lot)) [false] (.agg [x, y]) ∧ h' = frameOf h) .ret (fun s h => s.get [true, false] = G 2) := Tr.region fun s h hp => by
      obtain ⟨rfl, rfl⟩ := hp
      simp (disch := first | omega | exact getEq rfl | exact getO0 | exact Nat.le_of_ble_eq_true rfl) [c33_o0, c33_o1, c33_o2, c33_o3, frameOf, came_some, goI, List.getElem?_cons_zero, List.getElem?_cons_succ, kn, keep, frameOf, size_mk, get_mk_lt, get_mk_ge, Eff.app, Heap.setOwn, putAt, AV.cells, fillA, loadA, takeA, mk, Eff.isAll, Eff.isNone, Eff.commutes, Eff.spares, okPair, apart, eqAgg, fits, LK.fits, allEq, aveq, eqk, mmA, beqT, wrapI, idxI, tdivI, tmodI, decT, decF, ibT, ibF, inT, inF, evScope_c, if_pos, if_neg, K.k52, h1]
    exact t
end

end Go.Proofs.Ytlkgpcfhpeilhaa.Ev
