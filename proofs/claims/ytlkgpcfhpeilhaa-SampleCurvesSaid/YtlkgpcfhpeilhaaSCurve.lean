/-
  What Curve answers: a new slice of all the chances. No condition.
-/
import Derived.Test.YtlkgpcfhpeilhaaSFallsLaw
set_option linter.unusedVariables false
set_option linter.unusedSimpArgs false
namespace Go.Proofs.Ytlkgpcfhpeilhaa.Ev
open Go Go.AEv

attribute [local simp] evFunc initS evOps_c evTrim_c evSkip_c evExit_c evRet_c evSeq_c evCond_c evBlock_c evDraw_c runOps_n runOps_c exec_n exec_g pure1_c act AOpd.ev T.get T.set T.put evBin evUn forceT_eq forceV_eq forceL_eq evRess evRes one keep runFP_n runFP_c app_none AV.flats AV.flat

def frU (x y : Int) : Int := x / (Nat.gcd x.toNat y.toNat : Int)
def frV (x y : Int) : Int := y / (Nat.gcd x.toNat y.toNat : Int)

/-- A list of fractions, its cells; the arrays of one fraction that were appended to it. -/
def frs (U V : Nat → Int) : Nat → List AV
  | 0 => []
  | m + 1 => frs U V m ++ [G (U m), G (V m)]
def tmps (U V : Nat → Int) : Nat → List AObj
  | 0 => []
  | j + 1 => tmps U V j ++ [.cells 2 2 [G (U (j + 1)), G (V (j + 1))]]
theorem frs_len (U V : Nat → Int) : ∀ m, (frs U V m).length = 2 * m
  | 0 => rfl
  | m + 1 => by simp [frs, frs_len U V m]; omega
theorem tmps_len (U V : Nat → Int) : ∀ m, (tmps U V m).length = m
  | 0 => rfl
  | m + 1 => by simp [tmps, tmps_len U V m]
theorem frs_at (U V : Nat → Int) : ∀ (M d : Nat), d < M → ((frs U V M).drop (d * 2)).take 2 = [G (U d), G (V d)]
  | M + 1, d, h => by
    by_cases hd : d = M
    · subst hd
      rw [frs, List.drop_append_of_le_length (by rw [frs_len]; omega), List.drop_of_length_le (by rw [frs_len]; omega)]; rfl
    · have ih := frs_at U V M d (by omega)
      rw [frs, List.drop_append_of_le_length (by rw [frs_len]; omega), List.take_append_of_le_length (by rw [List.length_drop, frs_len]; omega), ih]

/-- The chances of a plan, by the number of bad pieces. -/
def cU (lot n c : Int) (b : Nat) : Int := frU (acc lot b n (c.toNat + 1)) (ofZ lot b)
def cV (lot n c : Int) (b : Nat) : Int := frV (acc lot b n (c.toNat + 1)) (ofZ lot b)
theorem fr_c (lot n c : Int) (b : Nat) : fr (acc lot b n (c.toNat + 1)) (ofZ lot b) = .agg [G (cU lot n c b), G (cV lot n c b)] := rfl

/-- The frame of Curve behind j + 1 rounds. -/
def ownC (U V : Nat → Int) (j : Nat) : List AObj := .cells 0 1369 (tri 37 0) :: .cells 2 2 [G (U 0), G (V 0)] :: .cells 2 (2 * (j + 1)) (frs U V (j + 1)) :: tmps U V j

section
variable {lot n c : Int}
theorem curve_first (J : CallF) (K : Kn J) (h : Heap) (hl : 1 ≤ lot ∧ lot ≤ 36) (hp : planOk lot n c) :
    Tr tbl J (.trim [[], [false], [true], [true, false, false], [false, true, false], [false, false, false, true], [true, false, false, true]] c35_b0) (fun s h' => s.get [] = G lot ∧ s.get [false] = G n ∧ s.get [true] = G c ∧ s.get [true, false, false] = .ptr h.size 0 1369 ∧ s.get [false, true, false] = .nils ∧ s.get [false, false, false, true] = G (lot + 1) ∧ s.get [true, false, false, true] = G 0 ∧ h' = ⟨h.get, h.size, [.cells 0 1369 (tri 37 0)]⟩) .normal
      (fun s h' => s.get [] = G lot ∧ s.get [false] = G n ∧ s.get [true] = G c ∧ s.get [true, false, false] = .ptr h.size 0 1369 ∧ s.get [false, true, false] = .slice (h.size + 2) 0 1 2 ∧ s.get [false, false, false, true] = G (lot + 1) ∧ s.get [true, false, false, true] = G 1 ∧ h' = ⟨h.get, h.size, ownC (cU lot n c) (cV lot n c) 0⟩) := by
  obtain ⟨⟨b1, b2⟩, b3, b4⟩ := hp
  have q1 := ofZ_le lot (0 : Nat) 36 (by omega)
  have q2 := ofZ_pos (n := lot) (k := (0 : Nat)) (by omega) (by omega)
  have q3 := acc_le_all (lot := lot) (bad := (0 : Nat)) (n := n) (by omega) b2 (by omega) (by omega) (c.toNat + 1)
  have e := fr_c lot n c 0
  simp only [Int.natCast_zero] at e q1 q2 q3
  have t : Tr tbl J ((.trim [[], [false], [true], [true, false, false], [false, true, false], [false, false, false, true], [true, false, false, true]] c35_b0)) (fun s h' => s.get [] = G lot ∧ s.get [false] = G n ∧ s.get [true] = G c ∧ s.get [true, false, false] = .ptr h.size 0 1369 ∧ s.get [false, true, false] = .nils ∧ s.get [false, false, false, true] = G (lot + 1) ∧ s.get [true, false, false, true] = G 0 ∧ h' = ⟨h.get, h.size, [.cells 0 1369 (tri 37 0)]⟩) .normal (fun s h' => s.get [] = G lot ∧ s.get [false] = G n ∧ s.get [true] = G c ∧ s.get [true, false, false] = .ptr h.size 0 1369 ∧ s.get [false, true, false] = .slice (h.size + 2) 0 1 2 ∧ s.get [false, false, false, true] = G (lot + 1) ∧ s.get [true, false, false, true] = G 1 ∧ h' = ⟨h.get, h.size, ownC (cU lot n c) (cV lot n c) 0⟩) := Tr.region fun s h hp => by
    obtain ⟨g0, g1, g2, g3, g4, g5, g6, rfl⟩ := hp
    simp (disch := first | omega | exact getEq rfl | exact getO0 | exact Nat.le_of_ble_eq_true rfl) [c35_b0, c35_o6, c35_o7, c35_o8, c35_o9, ownC, frs, tmps, came_some, goI, List.getElem?_cons_zero, List.getElem?_cons_succ, kn, keep, frameOf, Heap.size, Heap.get, Eff.app, Heap.setOwn, putAt, AV.cells, fillA, loadA, takeA, mk, Eff.isAll, Eff.isNone, Eff.commutes, Eff.spares, okPair, apart, eqAgg, fits, LK.fits, allEq, aveq, eqk, mmA, beqT, wrapI, idxI, tdivI, tmodI, decT, decF, ibT, ibF, inT, inF, evScope_c, if_pos, if_neg, g0, g1, g2, g3, g4, g5, g6, K.k57, K.k58, K.k56, e, appA, elems, rdOf]
  exact t

theorem curve_next (J : CallF) (K : Kn J) (h : Heap) (hl : 1 ≤ lot ∧ lot ≤ 36) (hp : planOk lot n c) (j : Nat) (hj : (j : Int) + 1 ≤ lot) :
    Tr tbl J (.trim [[], [false], [true], [true, false, false], [false, true, false], [false, false, false, true], [true, false, false, true]] c35_b0) (fun s h' => s.get [] = G lot ∧ s.get [false] = G n ∧ s.get [true] = G c ∧ s.get [true, false, false] = .ptr h.size 0 1369 ∧ s.get [false, true, false] = .slice (h.size + 2) 0 (j + 1) (2 * (j + 1)) ∧ s.get [false, false, false, true] = G (lot + 1) ∧ s.get [true, false, false, true] = G ((j + 1 : Nat) : Int) ∧ h' = ⟨h.get, h.size, ownC (cU lot n c) (cV lot n c) j⟩) .normal
      (fun s h' => s.get [] = G lot ∧ s.get [false] = G n ∧ s.get [true] = G c ∧ s.get [true, false, false] = .ptr h.size 0 1369 ∧ s.get [false, true, false] = .slice (h.size + 2) 0 (j + 1 + 1) (2 * (j + 1 + 1)) ∧ s.get [false, false, false, true] = G (lot + 1) ∧ s.get [true, false, false, true] = G ((j + 1 + 1 : Nat) : Int) ∧ h' = ⟨h.get, h.size, ownC (cU lot n c) (cV lot n c) (j + 1)⟩) := by
  obtain ⟨⟨b1, b2⟩, b3, b4⟩ := hp
  have q1 := ofZ_le lot (j + 1 : Nat) 36 (by omega)
  have q2 := ofZ_pos (n := lot) (k := (j + 1 : Nat)) (by omega) (by omega)
  have q3 := acc_le_all (lot := lot) (bad := (j + 1 : Nat)) (n := n) (by omega) b2 (by omega) (by omega) (c.toNat + 1)
  have e := fr_c lot n c (j + 1)
  simp only [Int.natCast_add, Int.natCast_one] at e q1 q2 q3
  have l1 := frs_len (cU lot n c) (cV lot n c) (j + 1)
  have l2 := tmps_len (cU lot n c) (cV lot n c) j
  have r1 : frs (cU lot n c) (cV lot n c) (j + 1) ++ [G (cU lot n c (j + 1)), G (cV lot n c (j + 1))] = frs (cU lot n c) (cV lot n c) (j + 1 + 1) := rfl
  have r2 : tmps (cU lot n c) (cV lot n c) j ++ [.cells 2 2 [G (cU lot n c (j + 1)), G (cV lot n c (j + 1))]] = tmps (cU lot n c) (cV lot n c) (j + 1) := rfl
  have r3 : 2 * (j + 1) + 2 = 2 * (j + 1 + 1) := by omega
  have r5 : (j + 1) * 2 = 2 * (j + 1) := by omega
  have r4 : (tmps (cU lot n c) (cV lot n c) (j + 1))[j]? = some (.cells 2 2 [G (cU lot n c (j + 1)), G (cV lot n c (j + 1))]) := by
    rw [← r2, List.getElem?_append_right (by omega), l2, Nat.sub_self]; rfl
  unfold ownC
  generalize 2 * (j + 1) = v1 at *
  generalize 2 * (j + 1 + 1) = v2 at *
  have t : Tr tbl J ((.trim [[], [false], [true], [true, false, false], [false, true, false], [false, false, false, true], [true, false, false, true]] c35_b0)) (fun s h' => s.get [] = G lot ∧ s.get [false] = G n ∧ s.get [true] = G c ∧ s.get [true, false, false] = .ptr h.size 0 1369 ∧ s.get [false, true, false] = .slice (h.size + 2) 0 (j + 1) v1 ∧ s.get [false, false, false, true] = G (lot + 1) ∧ s.get [true, false, false, true] = G ((j + 1 : Nat) : Int) ∧ h' = ⟨h.get, h.size, .cells 0 1369 (tri 37 0) :: .cells 2 2 [G (cU lot n c 0), G (cV lot n c 0)] :: .cells 2 v1 (frs (cU lot n c) (cV lot n c) (j + 1)) :: tmps (cU lot n c) (cV lot n c) j⟩) .normal (fun s h' => s.get [] = G lot ∧ s.get [false] = G n ∧ s.get [true] = G c ∧ s.get [true, false, false] = .ptr h.size 0 1369 ∧ s.get [false, true, false] = .slice (h.size + 2) 0 (j + 1 + 1) v2 ∧ s.get [false, false, false, true] = G (lot + 1) ∧ s.get [true, false, false, true] = G ((j + 1 + 1 : Nat) : Int) ∧ h' = ⟨h.get, h.size, .cells 0 1369 (tri 37 0) :: .cells 2 2 [G (cU lot n c 0), G (cV lot n c 0)] :: .cells 2 v2 (frs (cU lot n c) (cV lot n c) (j + 1 + 1)) :: tmps (cU lot n c) (cV lot n c) (j + 1)⟩) := Tr.region fun s h hp => by
    obtain ⟨g0, g1, g2, g3, g4, g5, g6, rfl⟩ := hp
    simp (disch := first | omega | exact getEq rfl | exact getO0 | exact Nat.le_of_ble_eq_true rfl) [c35_b0, c35_o6, c35_o7, c35_o8, c35_o9, came_some, goI, List.getElem?_cons_zero, List.getElem?_cons_succ, kn, keep, frameOf, Heap.size, Heap.get, Eff.app, Heap.setOwn, putAt, AV.cells, fillA, loadA, takeA, mk, Eff.isAll, Eff.isNone, Eff.commutes, Eff.spares, okPair, apart, eqAgg, fits, LK.fits, allEq, aveq, eqk, mmA, beqT, wrapI, idxI, tdivI, tmodI, decT, decF, ibT, ibF, inT, inF, evScope_c, if_pos, if_neg, g0, g1, g2, g3, g4, g5, g6, K.k57, K.k58, K.k56, e, appA, elems, rdOf, l1, l2, r1, r2, r3, r4, List.getElem?_append_right]
  exact t

abbrev P35 (lot n c : Int) (h : Heap) (j : Nat) : SP := (fun s h' => s.get [] = G lot ∧ s.get [false] = G n ∧ s.get [true] = G c ∧ s.get [true, false, false] = .ptr h.size 0 1369 ∧ s.get [false, true, false] = .slice (h.size + 2) 0 (j + 1) (2 * (j + 1)) ∧ s.get [false, false, false, true] = G (lot + 1) ∧ s.get [true, false, false, true] = G ((j + 1 : Nat) : Int) ∧ h' = ⟨h.get, h.size, ownC (cU lot n c) (cV lot n c) j⟩)

theorem curve_loop (J : CallF) (K : Kn J) (h : Heap) (hl : 1 ≤ lot ∧ lot ≤ 36) (hp : planOk lot n c) : Tr tbl J c35_l0 (P35 lot n c h 0) (.exit 0) (fun s h' => s.get [false, true, false] = .slice (h.size + 2) 0 (lot.toNat + 1) (2 * (lot.toNat + 1)) ∧ h' = ⟨h.get, h.size, ownC (cU lot n c) (cV lot n c) lot.toNat⟩) := by
  refine Tr.rounds (P := P35 lot n c h) (M := lot.toNat) (fun j hj => curve_next J K h hl hp j (by omega)) ?_ (by simp) 0 (by omega)
  have hlt : ((lot.toNat : Int)) = lot := by omega
  have t : Tr tbl J ((.trim [[], [false], [true], [true, false, false], [false, true, false], [false, false, false, true], [true, false, false, true]] c35_b0)) (fun s h' => s.get [] = G lot ∧ s.get [false] = G n ∧ s.get [true] = G c ∧ s.get [true, false, false] = .ptr h.size 0 1369 ∧ s.get [false, true, false] = .slice (h.size + 2) 0 (lot.toNat + 1) (2 * (lot.toNat + 1)) ∧ s.get [false, false, false, true] = G (lot + 1) ∧ s.get [true, false, false, true] = G ((lot.toNat + 1 : Nat) : Int) ∧ h' = ⟨h.get, h.size, ownC (cU lot n c) (cV lot n c) lot.toNat⟩) (.exit 0) (fun s h' => s.get [false, true, false] = .slice (h.size + 2) 0 (lot.toNat + 1) (2 * (lot.toNat + 1)) ∧ h' = ⟨h.get, h.size, ownC (cU lot n c) (cV lot n c) lot.toNat⟩) := Tr.region fun s h hp => by
    obtain ⟨g0, g1, g2, g3, g4, g5, g6, rfl⟩ := hp
    simp (disch := first | omega | exact getEq rfl | exact getO0 | exact Nat.le_of_ble_eq_true rfl) [c35_b0, c35_o6, came_some, goI, List.getElem?_cons_zero, List.getElem?_cons_succ, kn, keep, frameOf, Heap.size, Heap.get, Eff.app, Heap.setOwn, putAt, AV.cells, fillA, loadA, takeA, mk, Eff.isAll, Eff.isNone, Eff.commutes, Eff.spares, okPair, apart, eqAgg, fits, LK.fits, allEq, aveq, eqk, mmA, beqT, wrapI, idxI, tdivI, tmodI, decT, decF, ibT, ibF, inT, inF, evScope_c, if_pos, if_neg, g0, g1, g2, g3, g4, g5, g6, hlt]
  exact t

theorem c35_good (J : CallF) (K : Kn J) (hJ : ∀ a h, J 35 a h = none) (lot n c : Int) (h : Heap) (hl : 1 ≤ lot ∧ lot ≤ 36) (hp : planOk lot n c) :
    CallsTo tbl J 35 [G lot, G n, G c] h (.tup [.slice (h.size + 2) 0 (lot.toNat + 1) (2 * (lot.toNat + 1)), G 0], ownC (cU lot n c) (cV lot n c) lot.toNat, false) := by
  have hl0 : lotOk lot 0 := ⟨hl, by omega, by omega⟩
  refine Tr.fnh (cf := c35) (e := .ret) (s := T.set (T.set (T.set .leaf [] (G lot)) [false] (G n)) [true] (G c)) (by decide) rfl (hJ _ _) rfl rfl rfl (by simp) ?_
  have t0 : Tr tbl J (c35_o0) (fun s h' => s = T.set (T.set (T.set .leaf [] (G lot)) [false] (G n)) [true] (G c) ∧ h' = frameOf h) .normal (fun s h' => s.get [] = G lot ∧ s.get [false] = G n ∧ s.get [true] = G c ∧ h' = ⟨h.get, h.size, []⟩) := Tr.region fun s h hp => by
    obtain ⟨rfl, rfl⟩ := hp
    simp (disch := first | omega | exact getEq rfl | exact getO0 | exact Nat.le_of_ble_eq_true rfl) [c35_o0, came_some, goI, List.getElem?_cons_zero, List.getElem?_cons_succ, kn, keep, frameOf, Heap.size, Heap.get, Eff.app, Heap.setOwn, putAt, AV.cells, fillA, loadA, takeA, mk, Eff.isAll, Eff.isNone, Eff.commutes, Eff.spares, okPair, apart, eqAgg, fits, LK.fits, allEq, aveq, eqk, mmA, beqT, wrapI, idxI, tdivI, tmodI, decT, decF, ibT, ibF, inT, inF, evScope_c, if_pos, if_neg]
  have t1 : Tr tbl J ((.seq c35_o1 (.cond (.s [true, false, true, false]) (.seq c35_o2 .ret) .skip))) (fun s h' => s.get [] = G lot ∧ s.get [false] = G n ∧ s.get [true] = G c ∧ h' = ⟨h.get, h.size, []⟩) .normal (fun s h' => s.get [] = G lot ∧ s.get [false] = G n ∧ s.get [true] = G c ∧ h' = ⟨h.get, h.size, []⟩) := Tr.region fun s h hp => by
    obtain ⟨g0, g1, g2, rfl⟩ := hp
    simp (disch := first | omega | exact getEq rfl | exact getO0 | exact Nat.le_of_ble_eq_true rfl) [c35_o1, came_some, goI, List.getElem?_cons_zero, List.getElem?_cons_succ, kn, keep, frameOf, Heap.size, Heap.get, Eff.app, Heap.setOwn, putAt, AV.cells, fillA, loadA, takeA, mk, Eff.isAll, Eff.isNone, Eff.commutes, Eff.spares, okPair, apart, eqAgg, fits, LK.fits, allEq, aveq, eqk, mmA, beqT, wrapI, idxI, tdivI, tmodI, decT, decF, ibT, ibF, inT, inF, evScope_c, if_pos, if_neg, g0, g1, g2, K.k52, K.k60, hl0, hp]
  have t2 : Tr tbl J ((.seq c35_o3 c35_o4)) (fun s h' => s.get [] = G lot ∧ s.get [false] = G n ∧ s.get [true] = G c ∧ h' = ⟨h.get, h.size, []⟩) .normal (fun s h' => s.get [] = G lot ∧ s.get [false] = G n ∧ s.get [true] = G c ∧ s.get [true, false, false] = .ptr h.size 0 1369 ∧ s.get [false, true, false] = .nils ∧ h' = ⟨h.get, h.size, [.cells 0 1369 (tri 37 0)]⟩) := Tr.region fun s h hp => by
    obtain ⟨g0, g1, g2, rfl⟩ := hp
    simp (disch := first | omega | exact getEq rfl | exact getO0 | exact Nat.le_of_ble_eq_true rfl) [c35_o3, c35_o4, came_some, goI, List.getElem?_cons_zero, List.getElem?_cons_succ, kn, keep, frameOf, Heap.size, Heap.get, Eff.app, Heap.setOwn, putAt, AV.cells, fillA, loadA, takeA, mk, Eff.isAll, Eff.isNone, Eff.commutes, Eff.spares, okPair, apart, eqAgg, fits, LK.fits, allEq, aveq, eqk, mmA, beqT, wrapI, idxI, tdivI, tmodI, decT, decF, ibT, ibF, inT, inF, evScope_c, if_pos, if_neg, g0, g1, g2, K.k54]
  have t3 : Tr tbl J (c35_o5) (fun s h' => s.get [] = G lot ∧ s.get [false] = G n ∧ s.get [true] = G c ∧ s.get [true, false, false] = .ptr h.size 0 1369 ∧ s.get [false, true, false] = .nils ∧ h' = ⟨h.get, h.size, [.cells 0 1369 (tri 37 0)]⟩) .normal (fun s h' => s.get [] = G lot ∧ s.get [false] = G n ∧ s.get [true] = G c ∧ s.get [true, false, false] = .ptr h.size 0 1369 ∧ s.get [false, true, false] = .nils ∧ s.get [false, false, false, true] = G (lot + 1) ∧ s.get [true, false, false, true] = G 0 ∧ h' = ⟨h.get, h.size, [.cells 0 1369 (tri 37 0)]⟩) := Tr.region fun s h hp => by
    obtain ⟨g0, g1, g2, g3, g4, rfl⟩ := hp
    simp (disch := first | omega | exact getEq rfl | exact getO0 | exact Nat.le_of_ble_eq_true rfl) [c35_o5, came_some, goI, List.getElem?_cons_zero, List.getElem?_cons_succ, kn, keep, frameOf, Heap.size, Heap.get, Eff.app, Heap.setOwn, putAt, AV.cells, fillA, loadA, takeA, mk, Eff.isAll, Eff.isNone, Eff.commutes, Eff.spares, okPair, apart, eqAgg, fits, LK.fits, allEq, aveq, eqk, mmA, beqT, wrapI, idxI, tdivI, tmodI, decT, decF, ibT, ibF, inT, inF, evScope_c, if_pos, if_neg, g0, g1, g2, g3, g4]
  have t4 : Tr tbl J ((.seq c35_o10 .ret)) (fun s h' => s.get [false, true, false] = .slice (h.size + 2) 0 (lot.toNat + 1) (2 * (lot.toNat + 1)) ∧ h' = ⟨h.get, h.size, ownC (cU lot n c) (cV lot n c) lot.toNat⟩) .ret (fun s h' => s.get [true, true] = .slice (h.size + 2) 0 (lot.toNat + 1) (2 * (lot.toNat + 1)) ∧ s.get [false, false, false] = G 0 ∧ h' = ⟨h.get, h.size, ownC (cU lot n c) (cV lot n c) lot.toNat⟩) := Tr.region fun s h hp => by
    obtain ⟨g0, rfl⟩ := hp
    simp (disch := first | omega | exact getEq rfl | exact getO0 | exact Nat.le_of_ble_eq_true rfl) [c35_o10, came_some, goI, List.getElem?_cons_zero, List.getElem?_cons_succ, kn, keep, frameOf, Heap.size, Heap.get, Eff.app, Heap.setOwn, putAt, AV.cells, fillA, loadA, takeA, mk, Eff.isAll, Eff.isNone, Eff.commutes, Eff.spares, okPair, apart, eqAgg, fits, LK.fits, allEq, aveq, eqk, mmA, beqT, wrapI, idxI, tdivI, tmodI, decT, decF, ibT, ibF, inT, inF, evScope_c, if_pos, if_neg, g0]
  have hlp := Tr.next (curve_first J K h hl hp) (curve_loop J K h hl hp)
  refine Tr.post (fun s h' q => ?_) (Tr.seq t0 (Tr.seq t1 (Tr.app2 t2 (Tr.seq (Tr.seq t3 (Tr.block hlp)) t4))))
  obtain ⟨q1, q2, rfl⟩ := q
  simp [c35, q1, q2]

theorem c35_bad (J : CallF) (K : Kn J) (hJ : ∀ a h, J 35 a h = none) (lot n c : Int) (h : Heap) (hlt : lot < 9223372036854775808) (hp : ¬ (lotOk lot 0 ∧ planOk lot n c)) :
    CallsTo tbl J 35 [G lot, G n, G c] h (.tup [.nils, G 2], [], false) := by
  refine Tr.fnv (cf := c35) (e := .ret) (s := T.set (T.set (T.set .leaf [] (G lot)) [false] (G n)) [true] (G c)) (by decide) rfl (hJ _ _) rfl rfl rfl (by simp) ?_
  have t0 : Tr tbl J (c35_o0) (fun s h' => s = T.set (T.set (T.set .leaf [] (G lot)) [false] (G n)) [true] (G c) ∧ h' = frameOf h) .normal (fun s h' => s.get [] = G lot ∧ s.get [false] = G n ∧ s.get [true] = G c ∧ h' = ⟨h.get, h.size, []⟩) := Tr.region fun s h hp => by
    obtain ⟨rfl, rfl⟩ := hp
    simp (disch := first | omega | exact getEq rfl | exact getO0 | exact Nat.le_of_ble_eq_true rfl) [c35_o0, came_some, goI, List.getElem?_cons_zero, List.getElem?_cons_succ, kn, keep, frameOf, Heap.size, Heap.get, Eff.app, Heap.setOwn, putAt, AV.cells, fillA, loadA, takeA, mk, Eff.isAll, Eff.isNone, Eff.commutes, Eff.spares, okPair, apart, eqAgg, fits, LK.fits, allEq, aveq, eqk, mmA, beqT, wrapI, idxI, tdivI, tmodI, decT, decF, ibT, ibF, inT, inF, evScope_c, if_pos, if_neg]
  have t1 : Tr tbl J ((.seq c35_o1 (.cond (.s [true, false, true, false]) (.seq c35_o2 .ret) .skip))) (fun s h' => s.get [] = G lot ∧ s.get [false] = G n ∧ s.get [true] = G c ∧ h' = ⟨h.get, h.size, []⟩) .ret (fun s h => s.get [true, true] = .nils ∧ s.get [false, false, false] = G 2) := Tr.region fun s h hp => by
    obtain ⟨g0, g1, g2, rfl⟩ := hp
    have hc : ¬ lotOk lot 0 ∨ (lotOk lot 0 ∧ ¬ planOk lot n c) := by by_cases x : lotOk lot 0 <;> simp [x] at hp ⊢; exact hp
    rcases hc with hc | hc <;> simp (disch := first | omega | exact getEq rfl | exact getO0 | exact Nat.le_of_ble_eq_true rfl) [c35_o1, c35_o2, came_some, goI, List.getElem?_cons_zero, List.getElem?_cons_succ, kn, keep, frameOf, Heap.size, Heap.get, Eff.app, Heap.setOwn, putAt, AV.cells, fillA, loadA, takeA, mk, Eff.isAll, Eff.isNone, Eff.commutes, Eff.spares, okPair, apart, eqAgg, fits, LK.fits, allEq, aveq, eqk, mmA, beqT, wrapI, idxI, tdivI, tmodI, decT, decF, ibT, ibF, inT, inF, evScope_c, if_pos, if_neg, g0, g1, g2, K.k52, K.k60, hc]
  refine Tr.post (fun s h' q => ?_) (Tr.seq t0 (Tr.seq_out t1 (by simp)))
  simp [c35, q]

end

def spec35 : SpecF := fun args h => match args with
  | [.int .i64 lot, .int .i64 n, .int .i64 c] =>
    if lotOk lot 0 ∧ planOk lot n c then some (.tup [.slice (h.size + 2) 0 (lot.toNat + 1) (2 * (lot.toNat + 1)), G 0], ownC (cU lot n c) (cV lot n c) lot.toNat, false)
    else if lot < 9223372036854775808 then some (.tup [.nils, G 2], [], false) else none
  | _ => none
noncomputable def I24 : CallF := addI I23 35 spec35
theorem s24 : Sound Go.Proofs.Try.prog I24 := Sound.add follows ok s23 (by decide) (fun args h x e => by
  unfold spec35 at e
  split at e
  · split at e
    · rename_i hh
      simp only [Option.some.injEq] at e; subst e; exact c35_good I23 kn23 (fun _ _ => rfl) _ _ _ h hh.1.1 hh.2
    · rename_i hh
      split at e
      · rename_i hlt
        simp only [Option.some.injEq] at e; subst e; exact c35_bad I23 kn23 (fun _ _ => rfl) _ _ _ h hlt hh
      · cases e
  · cases e)
theorem g35 (h : Heap) (lot n c : Int) (h1 : 1 ≤ lot) (h2 : lot ≤ 36) (h3 : 1 ≤ n) (h4 : n ≤ lot) (h5 : 0 ≤ c) (h6 : c < n) : I24 35 [G lot, G n, G c] h = some (.tup [.slice (h.size + 2) 0 (lot.toNat + 1) (2 * (lot.toNat + 1)), G 0], ownC (cU lot n c) (cV lot n c) lot.toNat, false) := by
  have hh : lotOk lot 0 ∧ planOk lot n c := by unfold lotOk planOk; omega
  simp [I24, addI, spec35, hh]
theorem g35n (h : Heap) (lot n c : Int) (hlt : lot < 9223372036854775808) (hp : ¬ (lotOk lot 0 ∧ planOk lot n c)) : I24 35 [G lot, G n, G c] h = some (.tup [.nils, G 2], [], false) := by
  simp only [I24, addI, spec35, if_true, if_neg hp, if_pos hlt]
theorem kn24 : Kn I24 := ⟨f67, f68, f59, f52, f60, f54, f58, f57, f56, f25, f18, f20, f30, f29, f31, f24, f22, f28, f23, f55, f27, f55r⟩
theorem kn24' : Kn3 I24 := ⟨⟨⟨kn24, g53, g19⟩, g17, g21⟩, g26⟩
structure Kn4 (J : CallF) : Prop extends Kn3 J where
  k35 : ∀ (h : Heap) (lot n c : Int) (h1 : 1 ≤ lot) (h2 : lot ≤ 36) (h3 : 1 ≤ n) (h4 : n ≤ lot) (h5 : 0 ≤ c) (h6 : c < n), J 35 [G lot, G n, G c] h = some (.tup [.slice (h.size + 2) 0 (lot.toNat + 1) (2 * (lot.toNat + 1)), G 0], ownC (cU lot n c) (cV lot n c) lot.toNat, false)
  k35n : ∀ (h : Heap) (lot n c : Int) (hlt : lot < 9223372036854775808) (hp : ¬ (lotOk lot 0 ∧ planOk lot n c)), J 35 [G lot, G n, G c] h = some (.tup [.nils, G 2], [], false)
theorem kn24'' : Kn4 I24 := ⟨kn24', g35, g35n⟩

end Go.Proofs.Ytlkgpcfhpeilhaa.Ev
