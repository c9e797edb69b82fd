/-
  What Double answers: in how many ways a double plan accepts, and how many pieces are examined. No condition.
-/
import Derived.Test.YtlkgpcfhpeilhaaSDbl
set_option linter.unusedVariables false
set_option linter.unusedSimpArgs false
namespace Go.Proofs.Ytlkgpcfhpeilhaa.Ev
open Go Go.AEv

attribute [local simp] evFunc initS evOps_c evTrim_c evSkip_c evExit_c evRet_c evSeq_c evCond_c evBlock_c evDraw_c runOps_n runOps_c exec_n exec_g pure1_c act AOpd.ev T.get T.set T.put evBin evUn forceT_eq forceV_eq forceL_eq evRess evRes one keep runFP_n runFP_c app_none AV.flats AV.flat

/-- A lot with some bad ones, and a double plan for it. -/
structure HD (lot bad n c r m d : Int) : Prop where
  h1 : 1 ≤ lot ∧ lot ≤ 36
  h2 : 0 ≤ bad ∧ bad ≤ lot
  h3 : 1 ≤ n ∧ n ≤ lot
  h4 : 1 ≤ m ∧ m ≤ lot - n
  h5 : 0 ≤ c ∧ c ≤ n
  h6 : c + 2 ≤ r ∧ r ≤ n + 1
  h7 : r - 1 ≤ d ∧ d ≤ n + m - 1

/-- What Double reckons: the ways that accept, and the pieces of the second sample. -/
def dblA (lot bad n c r m d : Int) : Nat := acc lot bad n (c.toNat + 1) + snd lot bad n c m d (r - c - 1).toNat
def dblP (lot bad n c r m d : Int) : Int := n * (ofZ lot bad : Int) + m * (sec lot bad n c (r - c - 1).toNat : Int)

section
variable {lot bad n c r m d : Int}
def H46 (n c r m d : Int) : Heap := ⟨e0.get, 0, [.cells 0 5 [G n, G c, G r, G m, G d], .cells 0 2 [G 0, G 0], .cells 0 2 [G 0, G 0], .cells 0 1369 (tri 37 0)]⟩
abbrev L46i : List Path := [[], [false], [true, true], [false, false, false], [false, true, false], [true, true, false], [true, false, true], [false, true, true], [true, true, true], [false, false, false, false], [true, false, false, false], [false, true, false, false], [true, true, false, true, false, false], [false, false, true, true, false, false]]
abbrev L46o : List Path := [[], [false], [true, true], [false, false, false], [false, true, false], [true, true, false], [true, false, true], [false, true, true], [true, true, true], [false, false, false, false], [true, false, false, false], [false, true, false, false]]

theorem dbl_in (J : CallF) (K : Kn J) (H : HD lot bad n c r m d) (k : Nat) (hk : (k : Int) ≤ d) (A S : Nat) (hA : A ≤ 200000000000000) (L : Nat) (hL : L ≤ 37) : Tr tbl J c46_l0 (fun s h => s.get [] = G lot ∧ s.get [false] = G bad ∧ s.get [true, true] = .ptr 1 0 2 ∧ s.get [false, false, false] = .ptr 2 0 2 ∧ s.get [false, true, false] = .ptr 3 0 1369 ∧ s.get [true, true, false] = G n ∧ s.get [true, false, true] = G r ∧ s.get [false, true, true] = G m ∧ s.get [true, true, true] = G d ∧ s.get [false, false, false, false] = G ((A + inn lot bad n m k 0 : Nat) : Int) ∧ s.get [true, false, false, false] = G S ∧ s.get [false, true, false, false] = G k ∧ s.get [true, true, false, true, false, false] = G L ∧ s.get [false, false, true, true, false, false] = G ((0 : Nat) : Int) ∧ h = H46 n c r m d) (.exit 2) (fun s h => s.get [] = G lot ∧ s.get [false] = G bad ∧ s.get [true, true] = .ptr 1 0 2 ∧ s.get [false, false, false] = .ptr 2 0 2 ∧ s.get [false, true, false] = .ptr 3 0 1369 ∧ s.get [true, true, false] = G n ∧ s.get [true, false, true] = G r ∧ s.get [false, true, true] = G m ∧ s.get [true, true, true] = G d ∧ s.get [false, false, false, false] = G ((A + inn lot bad n m k L : Nat) : Int) ∧ s.get [true, false, false, false] = G S ∧ s.get [false, true, false, false] = G k ∧ h = H46 n c r m d) := by
  obtain ⟨h1, h2, h3, h4, h5, h6, h7⟩ := H
  refine Tr.rounds (P := fun j => (fun s h => s.get [] = G lot ∧ s.get [false] = G bad ∧ s.get [true, true] = .ptr 1 0 2 ∧ s.get [false, false, false] = .ptr 2 0 2 ∧ s.get [false, true, false] = .ptr 3 0 1369 ∧ s.get [true, true, false] = G n ∧ s.get [true, false, true] = G r ∧ s.get [false, true, true] = G m ∧ s.get [true, true, true] = G d ∧ s.get [false, false, false, false] = G ((A + inn lot bad n m k j : Nat) : Int) ∧ s.get [true, false, false, false] = G S ∧ s.get [false, true, false, false] = G k ∧ s.get [true, true, false, true, false, false] = G L ∧ s.get [false, false, true, true, false, false] = G j ∧ h = H46 n c r m d)) (M := L) (fun j hj => ?_) ?_ (by simp) 0 (by omega)
  · have b1 := inn_term (lot := lot) (bad := bad) (n := n) (m := m) (by omega) (by omega) (by omega) h1.2 k j
    have b2 := inn_le (lot := lot) (bad := bad) (n := n) (m := m) (by omega) (by omega) (by omega) h1.2 k j
    have b3 := Nat.mul_le_mul_right 68719476736 (show j ≤ 37 by omega)
    have e : inn lot bad n m k (j + 1) = inn lot bad n m k j + ofZ n k * ofZ m j * ofZ (lot - n - m) (bad - k - j) := rfl
    rw [e]
    have p1 : (ofZ n k : Int) * (ofZ m j : Int) = ((ofZ n k * ofZ m j : Nat) : Int) := (Int.natCast_mul _ _).symm
    generalize hp : ofZ n k * ofZ m j = p at *
    have p2 : (p : Int) * (ofZ (lot - n - m) (bad - k - j) : Int) = ((p * ofZ (lot - n - m) (bad - k - j) : Nat) : Int) := (Int.natCast_mul _ _).symm
    generalize hq : p * ofZ (lot - n - m) (bad - k - j) = q at *
    generalize inn lot bad n m k j = z at *
    have t : Tr tbl J ((.trim L46i c46_b0)) (fun s h => s.get [] = G lot ∧ s.get [false] = G bad ∧ s.get [true, true] = .ptr 1 0 2 ∧ s.get [false, false, false] = .ptr 2 0 2 ∧ s.get [false, true, false] = .ptr 3 0 1369 ∧ s.get [true, true, false] = G n ∧ s.get [true, false, true] = G r ∧ s.get [false, true, true] = G m ∧ s.get [true, true, true] = G d ∧ s.get [false, false, false, false] = G ((A + z : Nat) : Int) ∧ s.get [true, false, false, false] = G S ∧ s.get [false, true, false, false] = G k ∧ s.get [true, true, false, true, false, false] = G L ∧ s.get [false, false, true, true, false, false] = G j ∧ h = H46 n c r m d) .normal (fun s h => s.get [] = G lot ∧ s.get [false] = G bad ∧ s.get [true, true] = .ptr 1 0 2 ∧ s.get [false, false, false] = .ptr 2 0 2 ∧ s.get [false, true, false] = .ptr 3 0 1369 ∧ s.get [true, true, false] = G n ∧ s.get [true, false, true] = G r ∧ s.get [false, true, true] = G m ∧ s.get [true, true, true] = G d ∧ s.get [false, false, false, false] = G ((A + (z + q) : Nat) : Int) ∧ s.get [true, false, false, false] = G S ∧ s.get [false, true, false, false] = G k ∧ s.get [true, true, false, true, false, false] = G L ∧ s.get [false, false, true, true, false, false] = G ((j + 1 : Nat) : Int) ∧ h = H46 n c r m d) := Tr.region fun s h hp => by
      obtain ⟨g0, g1, g2, g3, g4, g5, g6, g7, g8, g9, g10, g11, g12, g13, rfl⟩ := hp
      simp (disch := first | omega | exact getEq rfl | exact getO0 | exact Nat.le_of_ble_eq_true rfl) [c46_b0, c46_o10, c46_o11, c46_o12, c46_o13, came_some, goI, List.getElem?_cons_zero, List.getElem?_cons_succ, kn, keep, frameOf, Heap.size, Heap.get, Eff.app, Heap.setOwn, putAt, AV.cells, fillA, loadA, takeA, mk, Eff.isAll, Eff.isNone, Eff.commutes, Eff.spares, okPair, apart, eqAgg, fits, LK.fits, allEq, aveq, eqk, mmA, beqT, wrapI, idxI, tdivI, tmodI, decT, decF, ibT, ibF, inT, inF, evScope_c, if_pos, if_neg, g0, g1, g2, g3, g4, g5, g6, g7, g8, g9, g10, g11, g12, g13, K.k58, p1, p2]
      omega
    exact t
  ·
    have t : Tr tbl J ((.trim L46i c46_b0)) (fun s h => s.get [] = G lot ∧ s.get [false] = G bad ∧ s.get [true, true] = .ptr 1 0 2 ∧ s.get [false, false, false] = .ptr 2 0 2 ∧ s.get [false, true, false] = .ptr 3 0 1369 ∧ s.get [true, true, false] = G n ∧ s.get [true, false, true] = G r ∧ s.get [false, true, true] = G m ∧ s.get [true, true, true] = G d ∧ s.get [false, false, false, false] = G ((A + inn lot bad n m k L : Nat) : Int) ∧ s.get [true, false, false, false] = G S ∧ s.get [false, true, false, false] = G k ∧ s.get [true, true, false, true, false, false] = G L ∧ s.get [false, false, true, true, false, false] = G L ∧ h = H46 n c r m d) (.exit 2) (fun s h => s.get [] = G lot ∧ s.get [false] = G bad ∧ s.get [true, true] = .ptr 1 0 2 ∧ s.get [false, false, false] = .ptr 2 0 2 ∧ s.get [false, true, false] = .ptr 3 0 1369 ∧ s.get [true, true, false] = G n ∧ s.get [true, false, true] = G r ∧ s.get [false, true, true] = G m ∧ s.get [true, true, true] = G d ∧ s.get [false, false, false, false] = G ((A + inn lot bad n m k L : Nat) : Int) ∧ s.get [true, false, false, false] = G S ∧ s.get [false, true, false, false] = G k ∧ h = H46 n c r m d) := Tr.region fun s h hp => by
      obtain ⟨g0, g1, g2, g3, g4, g5, g6, g7, g8, g9, g10, g11, g12, g13, rfl⟩ := hp
      simp (disch := first | omega | exact getEq rfl | exact getO0 | exact Nat.le_of_ble_eq_true rfl) [c46_b0, c46_o10, came_some, goI, List.getElem?_cons_zero, List.getElem?_cons_succ, kn, keep, frameOf, Heap.size, Heap.get, Eff.app, Heap.setOwn, putAt, AV.cells, fillA, loadA, takeA, mk, Eff.isAll, Eff.isNone, Eff.commutes, Eff.spares, okPair, apart, eqAgg, fits, LK.fits, allEq, aveq, eqk, mmA, beqT, wrapI, idxI, tdivI, tmodI, decT, decF, ibT, ibF, inT, inF, evScope_c, if_pos, if_neg, g0, g1, g2, g3, g4, g5, g6, g7, g8, g9, g10, g11, g12, g13]
    exact t

abbrev P46 (lot bad n c r m d : Int) (i : Nat) : SP := (fun s h => s.get [] = G lot ∧ s.get [false] = G bad ∧ s.get [true, true] = .ptr 1 0 2 ∧ s.get [false, false, false] = .ptr 2 0 2 ∧ s.get [false, true, false] = .ptr 3 0 1369 ∧ s.get [true, true, false] = G n ∧ s.get [true, false, true] = G r ∧ s.get [false, true, true] = G m ∧ s.get [true, true, true] = G d ∧ s.get [false, false, false, false] = G ((acc lot bad n (c.toNat + 1) + snd lot bad n c m d i : Nat) : Int) ∧ s.get [true, false, false, false] = G (sec lot bad n c i) ∧ s.get [false, true, false, false] = G ((c.toNat + 1 + i : Nat) : Int) ∧ h = H46 n c r m d)

theorem dbl_step (J : CallF) (K : Kn J) (H : HD lot bad n c r m d) (i : Nat) (hi : c + 1 + i < r) : Tr tbl J (.trim L46o c46_b1) (P46 lot bad n c r m d i) .normal (P46 lot bad n c r m d (i + 1)) := by
  have H' := H
  obtain ⟨h1, h2, h3, h4, h5, h6, h7⟩ := H'
  have b1 := acc_le_all (lot := lot) (bad := bad) (n := n) (by omega) h3.2 h2.1 h2.2 (c.toNat + 1)
  have b2 := ofZ_le lot bad 36 (by omega)
  have b3 := snd_le (lot := lot) (bad := bad) (n := n) (c := c) (m := m) (d := d) (by omega) (by omega) (by omega) h1.2 (by omega) h5.1 i
  have b3' := Nat.mul_le_mul_right 2542620639232 (show i ≤ 36 by omega)
  have b4 := sec_le (lot := lot) (bad := bad) (n := n) (c := c) (by omega) h3.2 h1.2 i
  have b4' := Nat.mul_le_mul_right 68719476736 (show i ≤ 36 by omega)
  have b5 := tm_le (lot := lot) (bad := bad) (n := n) (by omega) h3.2 h1.2 (c.toNat + 1 + i)
  have e1 : snd lot bad n c m d (i + 1) = snd lot bad n c m d i + inn lot bad n m (c.toNat + 1 + i) (d - (c.toNat + 1 + i : Nat) + 1).toNat := rfl
  have e2 : sec lot bad n c (i + 1) = sec lot bad n c i + tm lot bad n (c.toNat + 1 + i) := rfl
  have e3 : (c.toNat + 1 + (i + 1)) = (c.toNat + 1 + i) + 1 := rfl
  unfold P46
  rw [e1, e2, e3]
  have hk : ((c.toNat + 1 + i : Nat) : Int) < r := by omega
  generalize c.toNat + 1 + i = k at *
  have p1 : (ofZ n k : Int) * (ofZ (lot - n) (bad - k) : Int) = (tm lot bad n k : Int) := (Int.natCast_mul _ _).symm
  obtain ⟨L, hL⟩ : ∃ L, (d - (k : Int) + 1).toNat = L := ⟨_, rfl⟩
  have hL' : (L : Int) = d - k + 1 := by omega
  rw [hL]
  generalize hS : sec lot bad n c i = S at *
  have ti := dbl_in J K H k (by omega) (acc lot bad n (c.toNat + 1) + snd lot bad n c m d i) (S + tm lot bad n k) (by omega) L (by omega)
  rw [Nat.add_assoc] at ti
  generalize acc lot bad n (c.toNat + 1) = A at *
  generalize snd lot bad n c m d i = B at *
  generalize tm lot bad n k = q at *
  have ta : Tr tbl J ((.trim L46o (.seq c46_o7 (.cond (.s [false, true, true, false, true]) .skip (.exit 0))))) (fun s h => s.get [] = G lot ∧ s.get [false] = G bad ∧ s.get [true, true] = .ptr 1 0 2 ∧ s.get [false, false, false] = .ptr 2 0 2 ∧ s.get [false, true, false] = .ptr 3 0 1369 ∧ s.get [true, true, false] = G n ∧ s.get [true, false, true] = G r ∧ s.get [false, true, true] = G m ∧ s.get [true, true, true] = G d ∧ s.get [false, false, false, false] = G ((A + B : Nat) : Int) ∧ s.get [true, false, false, false] = G S ∧ s.get [false, true, false, false] = G k ∧ h = H46 n c r m d) .normal (fun s h => s.get [] = G lot ∧ s.get [false] = G bad ∧ s.get [true, true] = .ptr 1 0 2 ∧ s.get [false, false, false] = .ptr 2 0 2 ∧ s.get [false, true, false] = .ptr 3 0 1369 ∧ s.get [true, true, false] = G n ∧ s.get [true, false, true] = G r ∧ s.get [false, true, true] = G m ∧ s.get [true, true, true] = G d ∧ s.get [false, false, false, false] = G ((A + B : Nat) : Int) ∧ s.get [true, false, false, false] = G S ∧ s.get [false, true, false, false] = G k ∧ h = H46 n c r m d) := Tr.region fun s h hp => by
    obtain ⟨g0, g1, g2, g3, g4, g5, g6, g7, g8, g9, g10, g11, rfl⟩ := hp
    simp (disch := first | omega | exact getEq rfl | exact getO0 | exact Nat.le_of_ble_eq_true rfl) [c46_o7, came_some, goI, List.getElem?_cons_zero, List.getElem?_cons_succ, kn, keep, frameOf, Heap.size, Heap.get, Eff.app, Heap.setOwn, putAt, AV.cells, fillA, loadA, takeA, mk, Eff.isAll, Eff.isNone, Eff.commutes, Eff.spares, okPair, apart, eqAgg, fits, LK.fits, allEq, aveq, eqk, mmA, beqT, wrapI, idxI, tdivI, tmodI, decT, decF, ibT, ibF, inT, inF, evScope_c, if_pos, if_neg, g0, g1, g2, g3, g4, g5, g6, g7, g8, g9, g10, g11]
  have tb : Tr tbl J ((.seq c46_o8 c46_o9)) (fun s h => s.get [] = G lot ∧ s.get [false] = G bad ∧ s.get [true, true] = .ptr 1 0 2 ∧ s.get [false, false, false] = .ptr 2 0 2 ∧ s.get [false, true, false] = .ptr 3 0 1369 ∧ s.get [true, true, false] = G n ∧ s.get [true, false, true] = G r ∧ s.get [false, true, true] = G m ∧ s.get [true, true, true] = G d ∧ s.get [false, false, false, false] = G ((A + B : Nat) : Int) ∧ s.get [true, false, false, false] = G S ∧ s.get [false, true, false, false] = G k ∧ h = H46 n c r m d) .normal (fun s h => s.get [] = G lot ∧ s.get [false] = G bad ∧ s.get [true, true] = .ptr 1 0 2 ∧ s.get [false, false, false] = .ptr 2 0 2 ∧ s.get [false, true, false] = .ptr 3 0 1369 ∧ s.get [true, true, false] = G n ∧ s.get [true, false, true] = G r ∧ s.get [false, true, true] = G m ∧ s.get [true, true, true] = G d ∧ s.get [false, false, false, false] = G ((A + (B + inn lot bad n m k 0) : Nat) : Int) ∧ s.get [true, false, false, false] = G ((S + q : Nat) : Int) ∧ s.get [false, true, false, false] = G k ∧ s.get [true, true, false, true, false, false] = G L ∧ s.get [false, false, true, true, false, false] = G ((0 : Nat) : Int) ∧ h = H46 n c r m d) := Tr.region fun s h hp => by
    obtain ⟨g0, g1, g2, g3, g4, g5, g6, g7, g8, g9, g10, g11, rfl⟩ := hp
    simp (disch := first | omega | exact getEq rfl | exact getO0 | exact Nat.le_of_ble_eq_true rfl) [c46_o8, c46_o9, came_some, goI, List.getElem?_cons_zero, List.getElem?_cons_succ, kn, keep, frameOf, Heap.size, Heap.get, Eff.app, Heap.setOwn, putAt, AV.cells, fillA, loadA, takeA, mk, Eff.isAll, Eff.isNone, Eff.commutes, Eff.spares, okPair, apart, eqAgg, fits, LK.fits, allEq, aveq, eqk, mmA, beqT, wrapI, idxI, tdivI, tmodI, decT, decF, ibT, ibF, inT, inF, evScope_c, if_pos, if_neg, g0, g1, g2, g3, g4, g5, g6, g7, g8, g9, g10, g11, K.k58, p1, inn]
    omega
  have te : Tr tbl J (c46_o14) (fun s h => s.get [] = G lot ∧ s.get [false] = G bad ∧ s.get [true, true] = .ptr 1 0 2 ∧ s.get [false, false, false] = .ptr 2 0 2 ∧ s.get [false, true, false] = .ptr 3 0 1369 ∧ s.get [true, true, false] = G n ∧ s.get [true, false, true] = G r ∧ s.get [false, true, true] = G m ∧ s.get [true, true, true] = G d ∧ s.get [false, false, false, false] = G ((A + (B + inn lot bad n m k L) : Nat) : Int) ∧ s.get [true, false, false, false] = G ((S + q : Nat) : Int) ∧ s.get [false, true, false, false] = G k ∧ h = H46 n c r m d) .normal (fun s h => s.get [] = G lot ∧ s.get [false] = G bad ∧ s.get [true, true] = .ptr 1 0 2 ∧ s.get [false, false, false] = .ptr 2 0 2 ∧ s.get [false, true, false] = .ptr 3 0 1369 ∧ s.get [true, true, false] = G n ∧ s.get [true, false, true] = G r ∧ s.get [false, true, true] = G m ∧ s.get [true, true, true] = G d ∧ s.get [false, false, false, false] = G ((A + (B + inn lot bad n m k L) : Nat) : Int) ∧ s.get [true, false, false, false] = G ((S + q : Nat) : Int) ∧ s.get [false, true, false, false] = G ((k + 1 : Nat) : Int) ∧ h = H46 n c r m d) := Tr.region fun s h hp => by
    obtain ⟨g0, g1, g2, g3, g4, g5, g6, g7, g8, g9, g10, g11, rfl⟩ := hp
    simp (disch := first | omega | exact getEq rfl | exact getO0 | exact Nat.le_of_ble_eq_true rfl) [c46_o14, came_some, goI, List.getElem?_cons_zero, List.getElem?_cons_succ, kn, keep, frameOf, Heap.size, Heap.get, Eff.app, Heap.setOwn, putAt, AV.cells, fillA, loadA, takeA, mk, Eff.isAll, Eff.isNone, Eff.commutes, Eff.spares, okPair, apart, eqAgg, fits, LK.fits, allEq, aveq, eqk, mmA, beqT, wrapI, idxI, tdivI, tmodI, decT, decF, ibT, ibF, inT, inF, evScope_c, if_pos, if_neg, g0, g1, g2, g3, g4, g5, g6, g7, g8, g9, g10, g11]
  rw [Nat.add_assoc] at ti
  exact Tr.trim_seq ta (Tr.seq (Tr.block_out (Tr.app2 tb (Tr.block ti)) (by simp)) te)

theorem dblA_le (H : HD lot bad n c r m d) : dblA lot bad n c r m d ≤ 200000000000000 ∧ 0 ≤ dblP lot bad n c r m d ∧ dblP lot bad n c r m d ≤ 200000000000000 ∧ 1 ≤ ofZ lot bad ∧ ofZ lot bad ≤ 68719476736 ∧ (0 ≤ n * (ofZ lot bad : Int) ∧ n * (ofZ lot bad : Int) ≤ 2473901162496) ∧ (0 ≤ m * (sec lot bad n c (r - c - 1).toNat : Int) ∧ m * (sec lot bad n c (r - c - 1).toNat : Int) ≤ 89060441849856) := by
  obtain ⟨h1, h2, h3, h4, h5, h6, h7⟩ := H
  have b1 := acc_le_all (lot := lot) (bad := bad) (n := n) (by omega) h3.2 h2.1 h2.2 (c.toNat + 1)
  have b2 := ofZ_le lot bad 36 (by omega)
  have b3 := snd_le (lot := lot) (bad := bad) (n := n) (c := c) (m := m) (d := d) (by omega) (by omega) (by omega) h1.2 (by omega) h5.1 (r - c - 1).toNat
  have b3' := Nat.mul_le_mul_right 2542620639232 (show (r - c - 1).toNat ≤ 36 by omega)
  have b4 := sec_le (lot := lot) (bad := bad) (n := n) (c := c) (by omega) h3.2 h1.2 (r - c - 1).toNat
  have b4' := Nat.mul_le_mul_right 68719476736 (show (r - c - 1).toNat ≤ 36 by omega)
  have b5 := ofZ_pos h2.1 h2.2
  have p1 := mul_bd (x := n) (X := 36) (y := ofZ lot bad) (by omega) (by omega) (by omega) (by omega : _ ≤ (68719476736 : Int))
  have p2 := mul_bd (x := m) (X := 36) (y := sec lot bad n c (r - c - 1).toNat) (by omega) (by omega) (by omega) (by omega : _ ≤ (2473901162496 : Int))
  unfold dblA dblP
  omega

theorem fr_uv (x y : Int) : fr x y = .agg [G (frU x y), G (frV x y)] := rfl

theorem c46_good (J : CallF) (K : Kn J) (k66 : ∀ (h : Heap) (lot n c r m d : Int), 1 ≤ lot → lot ≤ 36 → J 66 [G lot, .agg [G n, G c, G r, G m, G d]] h = some (.bool (decide (dblOk lot n c r m d)), [], false)) (hJ : ∀ a h, J 46 a h = none) (H : HD lot bad n c r m d) :
    CallsTo tbl J 46 [G lot, G bad, .agg [G n, G c, G r, G m, G d]] e0 (.tup [fr (dblA lot bad n c r m d) (ofZ lot bad), fr (dblP lot bad n c r m d) (ofZ lot bad), G 0], [], false) := by
  have hd : dblOk lot n c r m d := ⟨H.h3, H.h4, H.h5, H.h6, H.h7⟩
  have hl : lotOk lot bad := ⟨H.h1, H.h2⟩
  have bd := dblA_le H
  have H' := H
  obtain ⟨h1, h2, h3, h4, h5, h6, h7⟩ := H'
  refine Tr.fnv (cf := c46) (e := .ret) (s := T.set (T.set (T.set .leaf [] (G lot)) [false] (G bad)) [true] (.agg [G n, G c, G r, G m, G d])) (by decide) rfl (hJ _ _) rfl rfl rfl (by simp) ?_
  have t0 : Tr tbl J (c46_o0) (fun s h => s = T.set (T.set (T.set .leaf [] (G lot)) [false] (G bad)) [true] (.agg [G n, G c, G r, G m, G d]) ∧ h = ⟨e0.get, 0, []⟩) .normal (fun s h => s.get [] = G lot ∧ s.get [false] = G bad ∧ s.get [false, true] = .ptr 0 0 5 ∧ s.get [true, true] = .ptr 1 0 2 ∧ s.get [false, false, false] = .ptr 2 0 2 ∧ h = ⟨e0.get, 0, [.cells 0 5 [G n, G c, G r, G m, G d], .cells 0 2 [G 0, G 0], .cells 0 2 [G 0, G 0]]⟩) := Tr.region fun s h hp => by
    obtain ⟨rfl, rfl⟩ := hp
    simp (disch := first | omega | exact getEq rfl | exact getO0 | exact Nat.le_of_ble_eq_true rfl) [c46_o0, came_some, goI, List.getElem?_cons_zero, List.getElem?_cons_succ, kn, keep, frameOf, Heap.size, Heap.get, Eff.app, Heap.setOwn, putAt, AV.cells, fillA, loadA, takeA, mk, Eff.isAll, Eff.isNone, Eff.commutes, Eff.spares, okPair, apart, eqAgg, fits, LK.fits, allEq, aveq, eqk, mmA, beqT, wrapI, idxI, tdivI, tmodI, decT, decF, ibT, ibF, inT, inF, evScope_c, if_pos, if_neg]
  have t1 : Tr tbl J ((.seq c46_o1 (.cond (.s [false, true, true, true]) (.seq c46_o2 .ret) .skip))) (fun s h => s.get [] = G lot ∧ s.get [false] = G bad ∧ s.get [false, true] = .ptr 0 0 5 ∧ s.get [true, true] = .ptr 1 0 2 ∧ s.get [false, false, false] = .ptr 2 0 2 ∧ h = ⟨e0.get, 0, [.cells 0 5 [G n, G c, G r, G m, G d], .cells 0 2 [G 0, G 0], .cells 0 2 [G 0, G 0]]⟩) .normal (fun s h => s.get [] = G lot ∧ s.get [false] = G bad ∧ s.get [false, true] = .ptr 0 0 5 ∧ s.get [true, true] = .ptr 1 0 2 ∧ s.get [false, false, false] = .ptr 2 0 2 ∧ h = ⟨e0.get, 0, [.cells 0 5 [G n, G c, G r, G m, G d], .cells 0 2 [G 0, G 0], .cells 0 2 [G 0, G 0]]⟩) := Tr.region fun s h hp => by
    obtain ⟨g0, g1, g2, g3, g4, rfl⟩ := hp
    simp (disch := first | omega | exact getEq rfl | exact getO0 | exact Nat.le_of_ble_eq_true rfl) [c46_o1, came_some, goI, List.getElem?_cons_zero, List.getElem?_cons_succ, kn, keep, frameOf, Heap.size, Heap.get, Eff.app, Heap.setOwn, putAt, AV.cells, fillA, loadA, takeA, mk, Eff.isAll, Eff.isNone, Eff.commutes, Eff.spares, okPair, apart, eqAgg, fits, LK.fits, allEq, aveq, eqk, mmA, beqT, wrapI, idxI, tdivI, tmodI, decT, decF, ibT, ibF, inT, inF, evScope_c, if_pos, if_neg, g0, g1, g2, g3, g4, K.k52, k66, hl, hd]
  have t2 : Tr tbl J ((.seq c46_o3 c46_o4)) (fun s h => s.get [] = G lot ∧ s.get [false] = G bad ∧ s.get [false, true] = .ptr 0 0 5 ∧ s.get [true, true] = .ptr 1 0 2 ∧ s.get [false, false, false] = .ptr 2 0 2 ∧ h = ⟨e0.get, 0, [.cells 0 5 [G n, G c, G r, G m, G d], .cells 0 2 [G 0, G 0], .cells 0 2 [G 0, G 0]]⟩) .normal (fun s h => s.get [] = G lot ∧ s.get [false] = G bad ∧ s.get [true, true] = .ptr 1 0 2 ∧ s.get [false, false, false] = .ptr 2 0 2 ∧ s.get [false, true, false] = .ptr 3 0 1369 ∧ s.get [true, true, false] = G n ∧ s.get [true, false, true] = G r ∧ s.get [false, true, true] = G m ∧ s.get [true, true, true] = G d ∧ s.get [false, false, true] = G c ∧ h = H46 n c r m d) := Tr.region fun s h hp => by
    obtain ⟨g0, g1, g2, g3, g4, rfl⟩ := hp
    simp (disch := first | omega | exact getEq rfl | exact getO0 | exact Nat.le_of_ble_eq_true rfl) [c46_o3, c46_o4, H46, came_some, goI, List.getElem?_cons_zero, List.getElem?_cons_succ, kn, keep, frameOf, Heap.size, Heap.get, Eff.app, Heap.setOwn, putAt, AV.cells, fillA, loadA, takeA, mk, Eff.isAll, Eff.isNone, Eff.commutes, Eff.spares, okPair, apart, eqAgg, fits, LK.fits, allEq, aveq, eqk, mmA, beqT, wrapI, idxI, tdivI, tmodI, decT, decF, ibT, ibF, inT, inF, evScope_c, if_pos, if_neg, g0, g1, g2, g3, g4, K.k54]
  have hN : ∀ h : Heap, H46 n c r m d = h → h.get 3 = .cells 0 1369 (tri 37 0) := fun h e => by rw [← e]; rfl
  have t3 : Tr tbl J (c46_o5) (fun s h => s.get [] = G lot ∧ s.get [false] = G bad ∧ s.get [true, true] = .ptr 1 0 2 ∧ s.get [false, false, false] = .ptr 2 0 2 ∧ s.get [false, true, false] = .ptr 3 0 1369 ∧ s.get [true, true, false] = G n ∧ s.get [true, false, true] = G r ∧ s.get [false, true, true] = G m ∧ s.get [true, true, true] = G d ∧ s.get [false, false, true] = G c ∧ h = H46 n c r m d) .normal (fun s h => s.get [] = G lot ∧ s.get [false] = G bad ∧ s.get [true, true] = .ptr 1 0 2 ∧ s.get [false, false, false] = .ptr 2 0 2 ∧ s.get [false, true, false] = .ptr 3 0 1369 ∧ s.get [true, true, false] = G n ∧ s.get [true, false, true] = G r ∧ s.get [false, true, true] = G m ∧ s.get [true, true, true] = G d ∧ s.get [false, false, true] = G c ∧ s.get [false, false, false, false] = G ((acc lot bad n (c.toNat + 1) + snd lot bad n c m d 0 : Nat) : Int) ∧ s.get [true, false, false, false] = G (sec lot bad n c 0) ∧ h = H46 n c r m d) := Tr.region fun s h hp => by
    obtain ⟨g0, g1, g2, g3, g4, g5, g6, g7, g8, g9, rfl⟩ := hp
    simp (disch := first | omega | exact getEq rfl | exact getO0 | exact Nat.le_of_ble_eq_true rfl) [c46_o5, came_some, goI, List.getElem?_cons_zero, List.getElem?_cons_succ, kn, keep, frameOf, Heap.size, Heap.get, Eff.app, Heap.setOwn, putAt, AV.cells, fillA, loadA, takeA, mk, Eff.isAll, Eff.isNone, Eff.commutes, Eff.spares, okPair, apart, eqAgg, fits, LK.fits, allEq, aveq, eqk, mmA, beqT, wrapI, idxI, tdivI, tmodI, decT, decF, ibT, ibF, inT, inF, evScope_c, if_pos, if_neg, g0, g1, g2, g3, g4, g5, g6, g7, g8, g9, K.k57, snd, sec]
  have t4 : Tr tbl J (c46_o6) (fun s h => s.get [] = G lot ∧ s.get [false] = G bad ∧ s.get [true, true] = .ptr 1 0 2 ∧ s.get [false, false, false] = .ptr 2 0 2 ∧ s.get [false, true, false] = .ptr 3 0 1369 ∧ s.get [true, true, false] = G n ∧ s.get [true, false, true] = G r ∧ s.get [false, true, true] = G m ∧ s.get [true, true, true] = G d ∧ s.get [false, false, true] = G c ∧ s.get [false, false, false, false] = G ((acc lot bad n (c.toNat + 1) + snd lot bad n c m d 0 : Nat) : Int) ∧ s.get [true, false, false, false] = G (sec lot bad n c 0) ∧ h = H46 n c r m d) .normal (fun s h => s.get [] = G lot ∧ s.get [false] = G bad ∧ s.get [true, true] = .ptr 1 0 2 ∧ s.get [false, false, false] = .ptr 2 0 2 ∧ s.get [false, true, false] = .ptr 3 0 1369 ∧ s.get [true, true, false] = G n ∧ s.get [true, false, true] = G r ∧ s.get [false, true, true] = G m ∧ s.get [true, true, true] = G d ∧ s.get [false, false, false, false] = G ((acc lot bad n (c.toNat + 1) + snd lot bad n c m d 0 : Nat) : Int) ∧ s.get [true, false, false, false] = G (sec lot bad n c 0) ∧ s.get [false, true, false, false] = G ((c.toNat + 1 + 0 : Nat) : Int) ∧ h = H46 n c r m d) := Tr.region fun s h hp => by
    obtain ⟨g0, g1, g2, g3, g4, g5, g6, g7, g8, g9, g10, g11, rfl⟩ := hp
    simp (disch := first | omega | exact getEq rfl | exact getO0 | exact Nat.le_of_ble_eq_true rfl) [c46_o6, came_some, goI, List.getElem?_cons_zero, List.getElem?_cons_succ, kn, keep, frameOf, Heap.size, Heap.get, Eff.app, Heap.setOwn, putAt, AV.cells, fillA, loadA, takeA, mk, Eff.isAll, Eff.isNone, Eff.commutes, Eff.spares, okPair, apart, eqAgg, fits, LK.fits, allEq, aveq, eqk, mmA, beqT, wrapI, idxI, tdivI, tmodI, decT, decF, ibT, ibF, inT, inF, evScope_c, if_pos, if_neg, g0, g1, g2, g3, g4, g5, g6, g7, g8, g9, g10, g11]
    omega
  have hA : acc lot bad n (c.toNat + 1) + snd lot bad n c m d (r - c - 1).toNat = dblA lot bad n c r m d := rfl
  have hP : n * (ofZ lot bad : Int) + m * (sec lot bad n c (r - c - 1).toNat : Int) = dblP lot bad n c r m d := rfl
  have t5 : Tr tbl J ((.trim L46o c46_b1)) (fun s h => s.get [] = G lot ∧ s.get [false] = G bad ∧ s.get [true, true] = .ptr 1 0 2 ∧ s.get [false, false, false] = .ptr 2 0 2 ∧ s.get [false, true, false] = .ptr 3 0 1369 ∧ s.get [true, true, false] = G n ∧ s.get [true, false, true] = G r ∧ s.get [false, true, true] = G m ∧ s.get [true, true, true] = G d ∧ s.get [false, false, false, false] = G ((acc lot bad n (c.toNat + 1) + snd lot bad n c m d (r - c - 1).toNat : Nat) : Int) ∧ s.get [true, false, false, false] = G (sec lot bad n c (r - c - 1).toNat) ∧ s.get [false, true, false, false] = G ((c.toNat + 1 + (r - c - 1).toNat : Nat) : Int) ∧ h = H46 n c r m d) (.exit 0) (fun s h => s.get [] = G lot ∧ s.get [false] = G bad ∧ s.get [true, true] = .ptr 1 0 2 ∧ s.get [false, false, false] = .ptr 2 0 2 ∧ s.get [false, true, false] = .ptr 3 0 1369 ∧ s.get [true, true, false] = G n ∧ s.get [false, true, true] = G m ∧ s.get [false, false, false, false] = G (dblA lot bad n c r m d) ∧ s.get [true, false, false, false] = G (sec lot bad n c (r - c - 1).toNat) ∧ h = H46 n c r m d) := Tr.region fun s h hp => by
    obtain ⟨g0, g1, g2, g3, g4, g5, g6, g7, g8, g9, g10, g11, rfl⟩ := hp
    rw [hA] at *
    simp (disch := first | omega | exact getEq rfl | exact getO0 | exact Nat.le_of_ble_eq_true rfl) [c46_b1, c46_o7, came_some, goI, List.getElem?_cons_zero, List.getElem?_cons_succ, kn, keep, frameOf, Heap.size, Heap.get, Eff.app, Heap.setOwn, putAt, AV.cells, fillA, loadA, takeA, mk, Eff.isAll, Eff.isNone, Eff.commutes, Eff.spares, okPair, apart, eqAgg, fits, LK.fits, allEq, aveq, eqk, mmA, beqT, wrapI, idxI, tdivI, tmodI, decT, decF, ibT, ibF, inT, inF, evScope_c, if_pos, if_neg, g0, g1, g2, g3, g4, g5, g6, g7, g8, g9, g10, g11]
  have tl := Tr.rounds (P := P46 lot bad n c r m d) (M := (r - c - 1).toNat) (fun i hi => dbl_step J K H i (by omega)) t5 (by simp) 0 (by omega)
  clear hA t5
  generalize sec lot bad n c (r - c - 1).toNat = Z at *
  generalize hAe : dblA lot bad n c r m d = A at *
  generalize hPe : dblP lot bad n c r m d = P at *
  have q1 := fr_uv A (ofZ lot bad)
  have q2 := fr_uv P (ofZ lot bad)
  rw [q1, q2]
  generalize frU (A : Int) (ofZ lot bad) = u1 at *
  generalize frV (A : Int) (ofZ lot bad) = v1 at *
  generalize frU P (ofZ lot bad) = u2 at *
  generalize frV P (ofZ lot bad) = v2 at *
  have t6 : Tr tbl J (c46_o15) (fun s h => s.get [] = G lot ∧ s.get [false] = G bad ∧ s.get [true, true] = .ptr 1 0 2 ∧ s.get [false, false, false] = .ptr 2 0 2 ∧ s.get [false, true, false] = .ptr 3 0 1369 ∧ s.get [true, true, false] = G n ∧ s.get [false, true, true] = G m ∧ s.get [false, false, false, false] = G A ∧ s.get [true, false, false, false] = G Z ∧ h = H46 n c r m d) .normal (fun s h => s.get [true, true] = .ptr 1 0 2 ∧ s.get [false, false, false] = .ptr 2 0 2 ∧ s.get [true, true, false] = G n ∧ s.get [false, true, true] = G m ∧ s.get [false, false, false, false] = G A ∧ s.get [true, false, false, false] = G Z ∧ s.get [false, false, true, false] = G (ofZ lot bad) ∧ h = H46 n c r m d) := Tr.region fun s h hp => by
    obtain ⟨g0, g1, g2, g3, g4, g5, g6, g7, g8, rfl⟩ := hp
    simp (disch := first | omega | exact getEq rfl | exact getO0 | exact Nat.le_of_ble_eq_true rfl) [c46_o15, came_some, goI, List.getElem?_cons_zero, List.getElem?_cons_succ, kn, keep, frameOf, Heap.size, Heap.get, Eff.app, Heap.setOwn, putAt, AV.cells, fillA, loadA, takeA, mk, Eff.isAll, Eff.isNone, Eff.commutes, Eff.spares, okPair, apart, eqAgg, fits, LK.fits, allEq, aveq, eqk, mmA, beqT, wrapI, idxI, tdivI, tmodI, decT, decF, ibT, ibF, inT, inF, evScope_c, if_pos, if_neg, g0, g1, g2, g3, g4, g5, g6, g7, g8, K.k58]
  have t7 : Tr tbl J ((.seq c46_o16 .ret)) (fun s h => s.get [true, true] = .ptr 1 0 2 ∧ s.get [false, false, false] = .ptr 2 0 2 ∧ s.get [true, true, false] = G n ∧ s.get [false, true, true] = G m ∧ s.get [false, false, false, false] = G A ∧ s.get [true, false, false, false] = G Z ∧ s.get [false, false, true, false] = G (ofZ lot bad) ∧ h = H46 n c r m d) .ret (fun s h => s.get [true, true] = .ptr 1 0 2 ∧ s.get [false, false, false] = .ptr 2 0 2 ∧ s.get [true, false, false] = G 0 ∧ h = ⟨e0.get, 0, [.cells 0 5 [G n, G c, G r, G m, G d], .cells 0 2 [G u1, G v1], .cells 0 2 [G u2, G v2], .cells 0 1369 (tri 37 0)]⟩) := Tr.region fun s h hp => by
    obtain ⟨g0, g1, g2, g3, g4, g5, g6, rfl⟩ := hp
    simp (disch := first | omega | exact getEq rfl | exact getO0 | exact Nat.le_of_ble_eq_true rfl) [c46_o16, H46, came_some, goI, List.getElem?_cons_zero, List.getElem?_cons_succ, kn, keep, frameOf, Heap.size, Heap.get, Eff.app, Heap.setOwn, putAt, AV.cells, fillA, loadA, takeA, mk, Eff.isAll, Eff.isNone, Eff.commutes, Eff.spares, okPair, apart, eqAgg, fits, LK.fits, allEq, aveq, eqk, mmA, beqT, wrapI, idxI, tdivI, tmodI, decT, decF, ibT, ibF, inT, inF, evScope_c, if_pos, if_neg, g0, g1, g2, g3, g4, g5, g6, K.k56, q1, q2, hP]
  refine Tr.post (fun s h q => ?_) (Tr.seq t0 (Tr.seq t1 (Tr.app2 t2 (Tr.seq t3 (Tr.seq (Tr.seq t4 (Tr.block tl)) (Tr.seq t6 t7))))))
  obtain ⟨q1, q2, q3, rfl⟩ := q
  simp [c46, q1, q2, q3, loadA, Heap.get, takeA]

theorem c46_bad (J : CallF) (K : Kn J) (k66 : ∀ (h : Heap) (lot n c r m d : Int), 1 ≤ lot → lot ≤ 36 → J 66 [G lot, .agg [G n, G c, G r, G m, G d]] h = some (.bool (decide (dblOk lot n c r m d)), [], false)) (hJ : ∀ a h, J 46 a h = none) (hp : ¬ (lotOk lot bad ∧ dblOk lot n c r m d)) :
    CallsTo tbl J 46 [G lot, G bad, .agg [G n, G c, G r, G m, G d]] e0 (.tup [.agg [G 0, G 0], .agg [G 0, G 0], G 2], [], false) := by
  refine Tr.fnv (cf := c46) (e := .ret) (s := T.set (T.set (T.set .leaf [] (G lot)) [false] (G bad)) [true] (.agg [G n, G c, G r, G m, G d])) (by decide) rfl (hJ _ _) rfl rfl rfl (by simp) ?_
  have t0 : Tr tbl J (c46_o0) (fun s h => s = T.set (T.set (T.set .leaf [] (G lot)) [false] (G bad)) [true] (.agg [G n, G c, G r, G m, G d]) ∧ h = ⟨e0.get, 0, []⟩) .normal (fun s h => s.get [] = G lot ∧ s.get [false] = G bad ∧ s.get [false, true] = .ptr 0 0 5 ∧ s.get [true, true] = .ptr 1 0 2 ∧ s.get [false, false, false] = .ptr 2 0 2 ∧ h = ⟨e0.get, 0, [.cells 0 5 [G n, G c, G r, G m, G d], .cells 0 2 [G 0, G 0], .cells 0 2 [G 0, G 0]]⟩) := Tr.region fun s h hp => by
    obtain ⟨rfl, rfl⟩ := hp
    simp (disch := first | omega | exact getEq rfl | exact getO0 | exact Nat.le_of_ble_eq_true rfl) [c46_o0, came_some, goI, List.getElem?_cons_zero, List.getElem?_cons_succ, kn, keep, frameOf, Heap.size, Heap.get, Eff.app, Heap.setOwn, putAt, AV.cells, fillA, loadA, takeA, mk, Eff.isAll, Eff.isNone, Eff.commutes, Eff.spares, okPair, apart, eqAgg, fits, LK.fits, allEq, aveq, eqk, mmA, beqT, wrapI, idxI, tdivI, tmodI, decT, decF, ibT, ibF, inT, inF, evScope_c, if_pos, if_neg]
  have t1 : Tr tbl J (.seq c46_o1 (.cond (.s [false, true, true, true]) (.seq c46_o2 .ret) .skip)) (fun s h => s.get [] = G lot ∧ s.get [false] = G bad ∧ s.get [false, true] = .ptr 0 0 5 ∧ s.get [true, true] = .ptr 1 0 2 ∧ s.get [false, false, false] = .ptr 2 0 2 ∧ h = ⟨e0.get, 0, [.cells 0 5 [G n, G c, G r, G m, G d], .cells 0 2 [G 0, G 0], .cells 0 2 [G 0, G 0]]⟩) .ret (fun s h => s.get [true, true] = .ptr 1 0 2 ∧ s.get [false, false, false] = .ptr 2 0 2 ∧ s.get [true, false, false] = G 2 ∧ h = ⟨e0.get, 0, [.cells 0 5 [G n, G c, G r, G m, G d], .cells 0 2 [G 0, G 0], .cells 0 2 [G 0, G 0]]⟩) := by
    by_cases x : lotOk lot bad
    · have hd : ¬ dblOk lot n c r m d := fun y => hp ⟨x, y⟩
      have x' := x
      obtain ⟨⟨l1, l2⟩, _⟩ := x'
      have t : Tr tbl J ((.seq c46_o1 (.cond (.s [false, true, true, true]) (.seq c46_o2 .ret) .skip))) (fun s h => s.get [] = G lot ∧ s.get [false] = G bad ∧ s.get [false, true] = .ptr 0 0 5 ∧ s.get [true, true] = .ptr 1 0 2 ∧ s.get [false, false, false] = .ptr 2 0 2 ∧ h = ⟨e0.get, 0, [.cells 0 5 [G n, G c, G r, G m, G d], .cells 0 2 [G 0, G 0], .cells 0 2 [G 0, G 0]]⟩) .ret (fun s h => s.get [true, true] = .ptr 1 0 2 ∧ s.get [false, false, false] = .ptr 2 0 2 ∧ s.get [true, false, false] = G 2 ∧ h = ⟨e0.get, 0, [.cells 0 5 [G n, G c, G r, G m, G d], .cells 0 2 [G 0, G 0], .cells 0 2 [G 0, G 0]]⟩) := Tr.region fun s h hp => by
        obtain ⟨g0, g1, g2, g3, g4, rfl⟩ := hp
        simp (disch := first | omega | exact getEq rfl | exact getO0 | exact Nat.le_of_ble_eq_true rfl) [c46_o1, c46_o2, came_some, goI, List.getElem?_cons_zero, List.getElem?_cons_succ, kn, keep, frameOf, Heap.size, Heap.get, Eff.app, Heap.setOwn, putAt, AV.cells, fillA, loadA, takeA, mk, Eff.isAll, Eff.isNone, Eff.commutes, Eff.spares, okPair, apart, eqAgg, fits, LK.fits, allEq, aveq, eqk, mmA, beqT, wrapI, idxI, tdivI, tmodI, decT, decF, ibT, ibF, inT, inF, evScope_c, if_pos, if_neg, g0, g1, g2, g3, g4, K.k52, k66, x, hd]
      exact t
    ·
      have t : Tr tbl J ((.seq c46_o1 (.cond (.s [false, true, true, true]) (.seq c46_o2 .ret) .skip))) (fun s h => s.get [] = G lot ∧ s.get [false] = G bad ∧ s.get [false, true] = .ptr 0 0 5 ∧ s.get [true, true] = .ptr 1 0 2 ∧ s.get [false, false, false] = .ptr 2 0 2 ∧ h = ⟨e0.get, 0, [.cells 0 5 [G n, G c, G r, G m, G d], .cells 0 2 [G 0, G 0], .cells 0 2 [G 0, G 0]]⟩) .ret (fun s h => s.get [true, true] = .ptr 1 0 2 ∧ s.get [false, false, false] = .ptr 2 0 2 ∧ s.get [true, false, false] = G 2 ∧ h = ⟨e0.get, 0, [.cells 0 5 [G n, G c, G r, G m, G d], .cells 0 2 [G 0, G 0], .cells 0 2 [G 0, G 0]]⟩) := Tr.region fun s h hp => by
        obtain ⟨g0, g1, g2, g3, g4, rfl⟩ := hp
        simp (disch := first | omega | exact getEq rfl | exact getO0 | exact Nat.le_of_ble_eq_true rfl) [c46_o1, c46_o2, came_some, goI, List.getElem?_cons_zero, List.getElem?_cons_succ, kn, keep, frameOf, Heap.size, Heap.get, Eff.app, Heap.setOwn, putAt, AV.cells, fillA, loadA, takeA, mk, Eff.isAll, Eff.isNone, Eff.commutes, Eff.spares, okPair, apart, eqAgg, fits, LK.fits, allEq, aveq, eqk, mmA, beqT, wrapI, idxI, tdivI, tmodI, decT, decF, ibT, ibF, inT, inF, evScope_c, if_pos, if_neg, g0, g1, g2, g3, g4, K.k52, x]
      exact t
  refine Tr.post (fun s h q => ?_) (Tr.seq t0 (Tr.seq_out t1 (by simp)))
  obtain ⟨q1, q2, q3, rfl⟩ := q
  simp [c46, q1, q2, q3, loadA, Heap.get, takeA]
end

end Go.Proofs.Ytlkgpcfhpeilhaa.Ev
