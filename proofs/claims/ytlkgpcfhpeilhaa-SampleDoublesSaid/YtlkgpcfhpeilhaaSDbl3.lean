/-
  What the reference's Double answers: the same. No condition.
-/
import Derived.Test.YtlkgpcfhpeilhaaSDbl2
set_option linter.unusedVariables false
set_option linter.unusedSimpArgs false
namespace Go.Proofs.Ytlkgpcfhpeilhaa.Ev
open Go Go.AEv

attribute [local simp] evFunc initS evOps_c evTrim_c evSkip_c evExit_c evRet_c evSeq_c evCond_c evBlock_c evDraw_c runOps_n runOps_c exec_n exec_g pure1_c act AOpd.ev T.get T.set T.put evBin evUn forceT_eq forceV_eq forceL_eq evRess evRes one keep runFP_n runFP_c app_none AV.flats AV.flat

section
variable {lot bad n c r m d : Int}
/-- How many numbers of bad ones among the second pieces let it be accepted. -/
def jl (m d : Int) (k : Nat) : Nat := (if m ≤ d - k then m + 1 else d - k + 1).toNat
def rW (lot bad n c r m d : Int) : Nat → Nat
  | 0 => 0
  | k + 1 => if (k : Int) ≤ c then rW lot bad n c r m d k + tm lot bad n k else if r ≤ k then rW lot bad n c r m d k else rW lot bad n c r m d k + inn lot bad n m k (jl m d k)
def rP (lot bad n c r m : Int) : Nat → Int
  | 0 => 0
  | k + 1 => if (k : Int) ≤ c ∨ r ≤ k then rP lot bad n c r m k + n * (tm lot bad n k : Int) else rP lot bad n c r m k + n * (tm lot bad n k : Int) + m * (tm lot bad n k : Int)
abbrev L50i : List Path := [[], [false], [true, false, false], [false, true, false], [true, true, false], [false, false, true], [true, false, true], [false, true, true], [true, true, true], [false, false, false, false], [false, true, false, false]]
abbrev L50o : List Path := [[], [false], [true, false, false], [false, true, false], [true, true, false], [false, false, true], [true, false, true], [false, true, true], [true, true, true], [false, false, false, false]]

theorem rdbl_in (J : CallF) (K : Kn J) (H : HD lot bad n c r m d) (k : Nat) (hk : (k : Int) ≤ d) (A : Nat) (P : Int) (hA : A ≤ 200000000000000) : Tr tbl J c50_l0 (fun s h => s.get [] = G lot ∧ s.get [false] = G bad ∧ s.get [true, false, false] = G n ∧ s.get [false, true, false] = G c ∧ s.get [true, true, false] = G r ∧ s.get [false, false, true] = G m ∧ s.get [true, false, true] = G d ∧ s.get [false, true, true] = G ((A + inn lot bad n m k 0 : Nat) : Int) ∧ s.get [true, true, true] = G P ∧ s.get [false, false, false, false] = G k ∧ s.get [false, true, false, false] = G ((0 : Nat) : Int)) (.exit 2) (fun s h => s.get [] = G lot ∧ s.get [false] = G bad ∧ s.get [true, false, false] = G n ∧ s.get [false, true, false] = G c ∧ s.get [true, true, false] = G r ∧ s.get [false, false, true] = G m ∧ s.get [true, false, true] = G d ∧ s.get [false, true, true] = G ((A + inn lot bad n m k (jl m d k) : Nat) : Int) ∧ s.get [true, true, true] = G P ∧ s.get [false, false, false, false] = G k) := by
  obtain ⟨h1, h2, h3, h4, h5, h6, h7⟩ := H
  have hj : jl m d k ≤ 37 := by unfold jl; split <;> omega
  have hm : ∀ j, j < jl m d k → (j : Int) ≤ m ∧ (k : Int) + j ≤ d := fun j hj => by
    unfold jl at hj; split at hj <;> omega
  have ho : ¬ ((jl m d k : Int) ≤ m ∧ (k : Int) + jl m d k ≤ d) := by unfold jl; split <;> omega
  generalize jl m d k = L at *
  refine Tr.rounds (P := fun j => (fun s h => s.get [] = G lot ∧ s.get [false] = G bad ∧ s.get [true, false, false] = G n ∧ s.get [false, true, false] = G c ∧ s.get [true, true, false] = G r ∧ s.get [false, false, true] = G m ∧ s.get [true, false, true] = G d ∧ s.get [false, true, true] = G ((A + inn lot bad n m k j : Nat) : Int) ∧ s.get [true, true, true] = G P ∧ s.get [false, false, false, false] = G k ∧ s.get [false, true, false, false] = G j)) (M := L) (fun j hj => ?_) ?_ (by simp) 0 (by omega)
  · have b1 := inn_term (lot := lot) (bad := bad) (n := n) (m := m) (by omega) (by omega) (by omega) h1.2 k j
    have b2 := inn_le (lot := lot) (bad := bad) (n := n) (m := m) (by omega) (by omega) (by omega) h1.2 k j
    have b3 := Nat.mul_le_mul_right 68719476736 (show j ≤ 37 by omega)
    have bm := hm j hj
    have e : inn lot bad n m k (j + 1) = inn lot bad n m k j + ofZ n k * ofZ m j * ofZ (lot - n - m) (bad - k - j) := rfl
    rw [e]
    have p1 : (ofZ n k : Int) * (ofZ m j : Int) = ((ofZ n k * ofZ m j : Nat) : Int) := (Int.natCast_mul _ _).symm
    generalize hp : ofZ n k * ofZ m j = p at *
    have p2 : (p : Int) * (ofZ (lot - n - m) (bad - k - j) : Int) = ((p * ofZ (lot - n - m) (bad - k - j) : Nat) : Int) := (Int.natCast_mul _ _).symm
    generalize hq : p * ofZ (lot - n - m) (bad - k - j) = q at *
    generalize inn lot bad n m k j = z at *
    have t : Tr tbl J ((.trim L50i c50_b0)) (fun s h => s.get [] = G lot ∧ s.get [false] = G bad ∧ s.get [true, false, false] = G n ∧ s.get [false, true, false] = G c ∧ s.get [true, true, false] = G r ∧ s.get [false, false, true] = G m ∧ s.get [true, false, true] = G d ∧ s.get [false, true, true] = G ((A + z : Nat) : Int) ∧ s.get [true, true, true] = G P ∧ s.get [false, false, false, false] = G k ∧ s.get [false, true, false, false] = G j) .normal (fun s h => s.get [] = G lot ∧ s.get [false] = G bad ∧ s.get [true, false, false] = G n ∧ s.get [false, true, false] = G c ∧ s.get [true, true, false] = G r ∧ s.get [false, false, true] = G m ∧ s.get [true, false, true] = G d ∧ s.get [false, true, true] = G ((A + (z + q) : Nat) : Int) ∧ s.get [true, true, true] = G P ∧ s.get [false, false, false, false] = G k ∧ s.get [false, true, false, false] = G ((j + 1 : Nat) : Int)) := Tr.region fun s h hp => by
      obtain ⟨g0, g1, g2, g3, g4, g5, g6, g7, g8, g9, g10⟩ := hp
      simp (disch := first | omega | exact getEq rfl | exact getO0 | exact Nat.le_of_ble_eq_true rfl) [c50_b0, c50_o12, c50_o13, c50_o14, came_some, goI, List.getElem?_cons_zero, List.getElem?_cons_succ, kn, keep, frameOf, Heap.size, Heap.get, Eff.app, Heap.setOwn, putAt, AV.cells, fillA, loadA, takeA, mk, Eff.isAll, Eff.isNone, Eff.commutes, Eff.spares, okPair, apart, eqAgg, fits, LK.fits, allEq, aveq, eqk, mmA, beqT, wrapI, idxI, tdivI, tmodI, decT, decF, ibT, ibF, inT, inF, evScope_c, if_pos, if_neg, g0, g1, g2, g3, g4, g5, g6, g7, g8, g9, g10, K.k29, p1, p2]
      omega
    exact t
  · have hcs : ¬ (L : Int) ≤ m ∨ ((L : Int) ≤ m ∧ ¬ (k : Int) + L ≤ d) := by omega
    generalize inn lot bad n m k L = z
    have t : Tr tbl J ((.trim L50i c50_b0)) (fun s h => s.get [] = G lot ∧ s.get [false] = G bad ∧ s.get [true, false, false] = G n ∧ s.get [false, true, false] = G c ∧ s.get [true, true, false] = G r ∧ s.get [false, false, true] = G m ∧ s.get [true, false, true] = G d ∧ s.get [false, true, true] = G ((A + z : Nat) : Int) ∧ s.get [true, true, true] = G P ∧ s.get [false, false, false, false] = G k ∧ s.get [false, true, false, false] = G L) (.exit 2) (fun s h => s.get [] = G lot ∧ s.get [false] = G bad ∧ s.get [true, false, false] = G n ∧ s.get [false, true, false] = G c ∧ s.get [true, true, false] = G r ∧ s.get [false, false, true] = G m ∧ s.get [true, false, true] = G d ∧ s.get [false, true, true] = G ((A + z : Nat) : Int) ∧ s.get [true, true, true] = G P ∧ s.get [false, false, false, false] = G k) := Tr.region fun s h hp => by
      obtain ⟨g0, g1, g2, g3, g4, g5, g6, g7, g8, g9, g10⟩ := hp
      rcases hcs with hc1 | ⟨hc1, hc2⟩ <;> simp (disch := first | omega | exact getEq rfl | exact getO0 | exact Nat.le_of_ble_eq_true rfl) [c50_b0, c50_o12, came_some, goI, List.getElem?_cons_zero, List.getElem?_cons_succ, kn, keep, frameOf, Heap.size, Heap.get, Eff.app, Heap.setOwn, putAt, AV.cells, fillA, loadA, takeA, mk, Eff.isAll, Eff.isNone, Eff.commutes, Eff.spares, okPair, apart, eqAgg, fits, LK.fits, allEq, aveq, eqk, mmA, beqT, wrapI, idxI, tdivI, tmodI, decT, decF, ibT, ibF, inT, inF, evScope_c, if_pos, if_neg, g0, g1, g2, g3, g4, g5, g6, g7, g8, g9, g10]
    exact t

abbrev P50 (lot bad n c r m d : Int) (k : Nat) : SP := (fun s h => s.get [] = G lot ∧ s.get [false] = G bad ∧ s.get [true, false, false] = G n ∧ s.get [false, true, false] = G c ∧ s.get [true, true, false] = G r ∧ s.get [false, false, true] = G m ∧ s.get [true, false, true] = G d ∧ s.get [false, true, true] = G (rW lot bad n c r m d k) ∧ s.get [true, true, true] = G (rP lot bad n c r m k) ∧ s.get [false, false, false, false] = G k)

theorem rW_le (H : HD lot bad n c r m d) : ∀ k : Nat, (k : Int) ≤ n + 1 → rW lot bad n c r m d k ≤ k * 2542620639232 ∧ 0 ≤ rP lot bad n c r m k ∧ rP lot bad n c r m k ≤ k * 5000000000000
  | 0, _ => by simp [rW, rP]
  | k + 1, hk => by
    have ih := rW_le H k (by omega)
    obtain ⟨h1, h2, h3, h4, h5, h6, h7⟩ := H
    have b5 := tm_le (lot := lot) (bad := bad) (n := n) (by omega) h3.2 h1.2 k
    have hj : jl m d k ≤ 37 := by unfold jl; split <;> omega
    have b2 := inn_le (lot := lot) (bad := bad) (n := n) (m := m) (by omega) (by omega) (by omega) h1.2 k (jl m d k)
    have b3 := Nat.mul_le_mul_right 68719476736 hj
    have p1 := mul_bd (x := n) (X := 36) (y := tm lot bad n k) (by omega) (by omega) (by omega) (by omega : _ ≤ (68719476736 : Int))
    have p2 := mul_bd (x := m) (X := 36) (y := tm lot bad n k) (by omega) (by omega) (by omega) (by omega : _ ≤ (68719476736 : Int))
    unfold rW rP
    refine ⟨?_, ?_, ?_⟩
    · split
      · omega
      · split <;> omega
    · split <;> omega
    · split <;> omega

theorem rdbl_step (J : CallF) (K : Kn J) (H : HD lot bad n c r m d) (k : Nat) (hk : (k : Int) ≤ n) : Tr tbl J (.trim L50o c50_b1) (P50 lot bad n c r m d k) .normal (P50 lot bad n c r m d (k + 1)) := by
  have bw := rW_le H k (by omega)
  have bk : k ≤ 36 := by have := H.h3; have := H.h1; omega
  have bk1 := Nat.mul_le_mul_right 2542620639232 bk
  have bk2 : (k : Int) * 5000000000000 ≤ 36 * 5000000000000 := by omega
  have H' := H
  obtain ⟨h1, h2, h3, h4, h5, h6, h7⟩ := H'
  have b5 := tm_le (lot := lot) (bad := bad) (n := n) (by omega) h3.2 h1.2 k
  have p1 := mul_bd (x := n) (X := 36) (y := tm lot bad n k) (by omega) (by omega) (by omega) (by omega : _ ≤ (68719476736 : Int))
  have p2 := mul_bd (x := m) (X := 36) (y := tm lot bad n k) (by omega) (by omega) (by omega) (by omega : _ ≤ (68719476736 : Int))
  have e1 : rW lot bad n c r m d (k + 1) = if (k : Int) ≤ c then rW lot bad n c r m d k + tm lot bad n k else if r ≤ k then rW lot bad n c r m d k else rW lot bad n c r m d k + inn lot bad n m k (jl m d k) := rfl
  have e2 : rP lot bad n c r m (k + 1) = if (k : Int) ≤ c ∨ r ≤ k then rP lot bad n c r m k + n * (tm lot bad n k : Int) else rP lot bad n c r m k + n * (tm lot bad n k : Int) + m * (tm lot bad n k : Int) := rfl
  have q1 : (ofZ n k : Int) * (ofZ (lot - n) (bad - k) : Int) = (tm lot bad n k : Int) := (Int.natCast_mul _ _).symm
  unfold P50
  rw [e1, e2]
  have ti := fun hkd => rdbl_in J K H k hkd (rW lot bad n c r m d k) (rP lot bad n c r m k + n * (tm lot bad n k : Int) + m * (tm lot bad n k : Int)) (by omega)
  generalize rW lot bad n c r m d k = A at *
  generalize rP lot bad n c r m k = P at *
  generalize tm lot bad n k = q at *
  generalize hnq : n * (q : Int) = nq at *
  generalize hmq : m * (q : Int) = mq at *
  have ta : Tr tbl J ((.trim L50o (.seq c50_o4 (.cond (.s [true, true, true, true]) .skip (.exit 0))))) (fun s h => s.get [] = G lot ∧ s.get [false] = G bad ∧ s.get [true, false, false] = G n ∧ s.get [false, true, false] = G c ∧ s.get [true, true, false] = G r ∧ s.get [false, false, true] = G m ∧ s.get [true, false, true] = G d ∧ s.get [false, true, true] = G A ∧ s.get [true, true, true] = G P ∧ s.get [false, false, false, false] = G k) .normal (fun s h => s.get [] = G lot ∧ s.get [false] = G bad ∧ s.get [true, false, false] = G n ∧ s.get [false, true, false] = G c ∧ s.get [true, true, false] = G r ∧ s.get [false, false, true] = G m ∧ s.get [true, false, true] = G d ∧ s.get [false, true, true] = G A ∧ s.get [true, true, true] = G P ∧ s.get [false, false, false, false] = G k) := Tr.region fun s h hp => by
    obtain ⟨g0, g1, g2, g3, g4, g5, g6, g7, g8, g9⟩ := hp
    simp (disch := first | omega | exact getEq rfl | exact getO0 | exact Nat.le_of_ble_eq_true rfl) [c50_o4, came_some, goI, List.getElem?_cons_zero, List.getElem?_cons_succ, kn, keep, frameOf, Heap.size, Heap.get, Eff.app, Heap.setOwn, putAt, AV.cells, fillA, loadA, takeA, mk, Eff.isAll, Eff.isNone, Eff.commutes, Eff.spares, okPair, apart, eqAgg, fits, LK.fits, allEq, aveq, eqk, mmA, beqT, wrapI, idxI, tdivI, tmodI, decT, decF, ibT, ibF, inT, inF, evScope_c, if_pos, if_neg, g0, g1, g2, g3, g4, g5, g6, g7, g8, g9]
  by_cases hc : (k : Int) ≤ c
  · rw [if_pos hc, if_pos (.inl hc)]
    have tb : Tr tbl J ((.seq c50_o5 (.seq c50_o6 (.seq (.seq c50_o7 (.cond (.s [false, false, true, false, true]) c50_o8 .skip)) (.seq c50_o9 (.cond (.s [true, true, true, true, true]) (.exit 1) .skip)))))) (fun s h => s.get [] = G lot ∧ s.get [false] = G bad ∧ s.get [true, false, false] = G n ∧ s.get [false, true, false] = G c ∧ s.get [true, true, false] = G r ∧ s.get [false, false, true] = G m ∧ s.get [true, false, true] = G d ∧ s.get [false, true, true] = G A ∧ s.get [true, true, true] = G P ∧ s.get [false, false, false, false] = G k) (.exit 1) (fun s h => s.get [] = G lot ∧ s.get [false] = G bad ∧ s.get [true, false, false] = G n ∧ s.get [false, true, false] = G c ∧ s.get [true, true, false] = G r ∧ s.get [false, false, true] = G m ∧ s.get [true, false, true] = G d ∧ s.get [false, true, true] = G ((A + q : Nat) : Int) ∧ s.get [true, true, true] = G (P + nq) ∧ s.get [false, false, false, false] = G k) := Tr.region fun s h hp => by
      obtain ⟨g0, g1, g2, g3, g4, g5, g6, g7, g8, g9⟩ := hp
      simp (disch := first | omega | exact getEq rfl | exact getO0 | exact Nat.le_of_ble_eq_true rfl) [c50_o5, c50_o6, c50_o7, c50_o8, c50_o9, came_some, goI, List.getElem?_cons_zero, List.getElem?_cons_succ, kn, keep, frameOf, Heap.size, Heap.get, Eff.app, Heap.setOwn, putAt, AV.cells, fillA, loadA, takeA, mk, Eff.isAll, Eff.isNone, Eff.commutes, Eff.spares, okPair, apart, eqAgg, fits, LK.fits, allEq, aveq, eqk, mmA, beqT, wrapI, idxI, tdivI, tmodI, decT, decF, ibT, ibF, inT, inF, evScope_c, if_pos, if_neg, g0, g1, g2, g3, g4, g5, g6, g7, g8, g9, K.k29, q1, hnq]
    have te : Tr tbl J (c50_o15) (fun s h => s.get [] = G lot ∧ s.get [false] = G bad ∧ s.get [true, false, false] = G n ∧ s.get [false, true, false] = G c ∧ s.get [true, true, false] = G r ∧ s.get [false, false, true] = G m ∧ s.get [true, false, true] = G d ∧ s.get [false, true, true] = G ((A + q : Nat) : Int) ∧ s.get [true, true, true] = G (P + nq) ∧ s.get [false, false, false, false] = G k) .normal (fun s h => s.get [] = G lot ∧ s.get [false] = G bad ∧ s.get [true, false, false] = G n ∧ s.get [false, true, false] = G c ∧ s.get [true, true, false] = G r ∧ s.get [false, false, true] = G m ∧ s.get [true, false, true] = G d ∧ s.get [false, true, true] = G ((A + q : Nat) : Int) ∧ s.get [true, true, true] = G (P + nq) ∧ s.get [false, false, false, false] = G ((k + 1 : Nat) : Int)) := Tr.region fun s h hp => by
      obtain ⟨g0, g1, g2, g3, g4, g5, g6, g7, g8, g9⟩ := hp
      simp (disch := first | omega | exact getEq rfl | exact getO0 | exact Nat.le_of_ble_eq_true rfl) [c50_o15, came_some, goI, List.getElem?_cons_zero, List.getElem?_cons_succ, kn, keep, frameOf, Heap.size, Heap.get, Eff.app, Heap.setOwn, putAt, AV.cells, fillA, loadA, takeA, mk, Eff.isAll, Eff.isNone, Eff.commutes, Eff.spares, okPair, apart, eqAgg, fits, LK.fits, allEq, aveq, eqk, mmA, beqT, wrapI, idxI, tdivI, tmodI, decT, decF, ibT, ibF, inT, inF, evScope_c, if_pos, if_neg, g0, g1, g2, g3, g4, g5, g6, g7, g8, g9]
    have tb' : Tr tbl J (.block 1 (.seq c50_o5 (.seq c50_o6 (.seq (.seq c50_o7 (.cond (.s [false, false, true, false, true]) c50_o8 .skip)) (.seq (.seq c50_o9 (.cond (.s [true, true, true, true, true]) (.exit 1) .skip)) (.seq c50_o10 (.seq c50_o11 (.block 2 c50_l0)))))))) _ .normal _ := Tr.block (Tr.assoc (Tr.assoc (Tr.assoc (Tr.seq_out (Tr.assoc' (Tr.assoc' tb)) (by simp)))))
    exact Tr.trim_seq ta (Tr.seq tb' te)
  · by_cases hr : r ≤ k
    · rw [if_neg hc, if_pos hr, if_pos (.inr hr)]
      have tb : Tr tbl J ((.seq c50_o5 (.seq c50_o6 (.seq (.seq c50_o7 (.cond (.s [false, false, true, false, true]) c50_o8 .skip)) (.seq c50_o9 (.cond (.s [true, true, true, true, true]) (.exit 1) .skip)))))) (fun s h => s.get [] = G lot ∧ s.get [false] = G bad ∧ s.get [true, false, false] = G n ∧ s.get [false, true, false] = G c ∧ s.get [true, true, false] = G r ∧ s.get [false, false, true] = G m ∧ s.get [true, false, true] = G d ∧ s.get [false, true, true] = G A ∧ s.get [true, true, true] = G P ∧ s.get [false, false, false, false] = G k) (.exit 1) (fun s h => s.get [] = G lot ∧ s.get [false] = G bad ∧ s.get [true, false, false] = G n ∧ s.get [false, true, false] = G c ∧ s.get [true, true, false] = G r ∧ s.get [false, false, true] = G m ∧ s.get [true, false, true] = G d ∧ s.get [false, true, true] = G A ∧ s.get [true, true, true] = G (P + nq) ∧ s.get [false, false, false, false] = G k) := Tr.region fun s h hp => by
        obtain ⟨g0, g1, g2, g3, g4, g5, g6, g7, g8, g9⟩ := hp
        simp (disch := first | omega | exact getEq rfl | exact getO0 | exact Nat.le_of_ble_eq_true rfl) [c50_o5, c50_o6, c50_o7, c50_o9, came_some, goI, List.getElem?_cons_zero, List.getElem?_cons_succ, kn, keep, frameOf, Heap.size, Heap.get, Eff.app, Heap.setOwn, putAt, AV.cells, fillA, loadA, takeA, mk, Eff.isAll, Eff.isNone, Eff.commutes, Eff.spares, okPair, apart, eqAgg, fits, LK.fits, allEq, aveq, eqk, mmA, beqT, wrapI, idxI, tdivI, tmodI, decT, decF, ibT, ibF, inT, inF, evScope_c, if_pos, if_neg, g0, g1, g2, g3, g4, g5, g6, g7, g8, g9, K.k29, q1, hnq]
      have te : Tr tbl J (c50_o15) (fun s h => s.get [] = G lot ∧ s.get [false] = G bad ∧ s.get [true, false, false] = G n ∧ s.get [false, true, false] = G c ∧ s.get [true, true, false] = G r ∧ s.get [false, false, true] = G m ∧ s.get [true, false, true] = G d ∧ s.get [false, true, true] = G A ∧ s.get [true, true, true] = G (P + nq) ∧ s.get [false, false, false, false] = G k) .normal (fun s h => s.get [] = G lot ∧ s.get [false] = G bad ∧ s.get [true, false, false] = G n ∧ s.get [false, true, false] = G c ∧ s.get [true, true, false] = G r ∧ s.get [false, false, true] = G m ∧ s.get [true, false, true] = G d ∧ s.get [false, true, true] = G A ∧ s.get [true, true, true] = G (P + nq) ∧ s.get [false, false, false, false] = G ((k + 1 : Nat) : Int)) := Tr.region fun s h hp => by
        obtain ⟨g0, g1, g2, g3, g4, g5, g6, g7, g8, g9⟩ := hp
        simp (disch := first | omega | exact getEq rfl | exact getO0 | exact Nat.le_of_ble_eq_true rfl) [c50_o15, came_some, goI, List.getElem?_cons_zero, List.getElem?_cons_succ, kn, keep, frameOf, Heap.size, Heap.get, Eff.app, Heap.setOwn, putAt, AV.cells, fillA, loadA, takeA, mk, Eff.isAll, Eff.isNone, Eff.commutes, Eff.spares, okPair, apart, eqAgg, fits, LK.fits, allEq, aveq, eqk, mmA, beqT, wrapI, idxI, tdivI, tmodI, decT, decF, ibT, ibF, inT, inF, evScope_c, if_pos, if_neg, g0, g1, g2, g3, g4, g5, g6, g7, g8, g9]
      have tb' : Tr tbl J (.block 1 (.seq c50_o5 (.seq c50_o6 (.seq (.seq c50_o7 (.cond (.s [false, false, true, false, true]) c50_o8 .skip)) (.seq (.seq c50_o9 (.cond (.s [true, true, true, true, true]) (.exit 1) .skip)) (.seq c50_o10 (.seq c50_o11 (.block 2 c50_l0)))))))) _ .normal _ := Tr.block (Tr.assoc (Tr.assoc (Tr.assoc (Tr.seq_out (Tr.assoc' (Tr.assoc' tb)) (by simp)))))
      exact Tr.trim_seq ta (Tr.seq tb' te)
    · rw [if_neg hc, if_neg hr, if_neg (by omega)]
      have ti' := ti (by omega)
      have tb : Tr tbl J ((.seq c50_o5 (.seq c50_o6 (.seq (.seq c50_o7 (.cond (.s [false, false, true, false, true]) c50_o8 .skip)) (.seq c50_o9 (.cond (.s [true, true, true, true, true]) (.exit 1) .skip)))))) (fun s h => s.get [] = G lot ∧ s.get [false] = G bad ∧ s.get [true, false, false] = G n ∧ s.get [false, true, false] = G c ∧ s.get [true, true, false] = G r ∧ s.get [false, false, true] = G m ∧ s.get [true, false, true] = G d ∧ s.get [false, true, true] = G A ∧ s.get [true, true, true] = G P ∧ s.get [false, false, false, false] = G k) .normal (fun s h => s.get [] = G lot ∧ s.get [false] = G bad ∧ s.get [true, false, false] = G n ∧ s.get [false, true, false] = G c ∧ s.get [true, true, false] = G r ∧ s.get [false, false, true] = G m ∧ s.get [true, false, true] = G d ∧ s.get [false, true, true] = G A ∧ s.get [true, true, true] = G (P + nq) ∧ s.get [false, false, false, false] = G k ∧ s.get [true, false, false, false] = G q) := Tr.region fun s h hp => by
        obtain ⟨g0, g1, g2, g3, g4, g5, g6, g7, g8, g9⟩ := hp
        simp (disch := first | omega | exact getEq rfl | exact getO0 | exact Nat.le_of_ble_eq_true rfl) [c50_o5, c50_o6, c50_o7, c50_o9, came_some, goI, List.getElem?_cons_zero, List.getElem?_cons_succ, kn, keep, frameOf, Heap.size, Heap.get, Eff.app, Heap.setOwn, putAt, AV.cells, fillA, loadA, takeA, mk, Eff.isAll, Eff.isNone, Eff.commutes, Eff.spares, okPair, apart, eqAgg, fits, LK.fits, allEq, aveq, eqk, mmA, beqT, wrapI, idxI, tdivI, tmodI, decT, decF, ibT, ibF, inT, inF, evScope_c, if_pos, if_neg, g0, g1, g2, g3, g4, g5, g6, g7, g8, g9, K.k29, q1, hnq]
      have tc : Tr tbl J ((.seq c50_o10 c50_o11)) (fun s h => s.get [] = G lot ∧ s.get [false] = G bad ∧ s.get [true, false, false] = G n ∧ s.get [false, true, false] = G c ∧ s.get [true, true, false] = G r ∧ s.get [false, false, true] = G m ∧ s.get [true, false, true] = G d ∧ s.get [false, true, true] = G A ∧ s.get [true, true, true] = G (P + nq) ∧ s.get [false, false, false, false] = G k ∧ s.get [true, false, false, false] = G q) .normal (fun s h => s.get [] = G lot ∧ s.get [false] = G bad ∧ s.get [true, false, false] = G n ∧ s.get [false, true, false] = G c ∧ s.get [true, true, false] = G r ∧ s.get [false, false, true] = G m ∧ s.get [true, false, true] = G d ∧ s.get [false, true, true] = G ((A + inn lot bad n m k 0 : Nat) : Int) ∧ s.get [true, true, true] = G (P + nq + mq) ∧ s.get [false, false, false, false] = G k ∧ s.get [false, true, false, false] = G ((0 : Nat) : Int)) := Tr.region fun s h hp => by
        obtain ⟨g0, g1, g2, g3, g4, g5, g6, g7, g8, g9, g10⟩ := hp
        simp (disch := first | omega | exact getEq rfl | exact getO0 | exact Nat.le_of_ble_eq_true rfl) [c50_o10, c50_o11, came_some, goI, List.getElem?_cons_zero, List.getElem?_cons_succ, kn, keep, frameOf, Heap.size, Heap.get, Eff.app, Heap.setOwn, putAt, AV.cells, fillA, loadA, takeA, mk, Eff.isAll, Eff.isNone, Eff.commutes, Eff.spares, okPair, apart, eqAgg, fits, LK.fits, allEq, aveq, eqk, mmA, beqT, wrapI, idxI, tdivI, tmodI, decT, decF, ibT, ibF, inT, inF, evScope_c, if_pos, if_neg, g0, g1, g2, g3, g4, g5, g6, g7, g8, g9, g10, hmq, inn]
      have te : Tr tbl J (c50_o15) (fun s h => s.get [] = G lot ∧ s.get [false] = G bad ∧ s.get [true, false, false] = G n ∧ s.get [false, true, false] = G c ∧ s.get [true, true, false] = G r ∧ s.get [false, false, true] = G m ∧ s.get [true, false, true] = G d ∧ s.get [false, true, true] = G ((A + inn lot bad n m k (jl m d k) : Nat) : Int) ∧ s.get [true, true, true] = G (P + nq + mq) ∧ s.get [false, false, false, false] = G k) .normal (fun s h => s.get [] = G lot ∧ s.get [false] = G bad ∧ s.get [true, false, false] = G n ∧ s.get [false, true, false] = G c ∧ s.get [true, true, false] = G r ∧ s.get [false, false, true] = G m ∧ s.get [true, false, true] = G d ∧ s.get [false, true, true] = G ((A + inn lot bad n m k (jl m d k) : Nat) : Int) ∧ s.get [true, true, true] = G (P + nq + mq) ∧ s.get [false, false, false, false] = G ((k + 1 : Nat) : Int)) := Tr.region fun s h hp => by
        obtain ⟨g0, g1, g2, g3, g4, g5, g6, g7, g8, g9⟩ := hp
        simp (disch := first | omega | exact getEq rfl | exact getO0 | exact Nat.le_of_ble_eq_true rfl) [c50_o15, came_some, goI, List.getElem?_cons_zero, List.getElem?_cons_succ, kn, keep, frameOf, Heap.size, Heap.get, Eff.app, Heap.setOwn, putAt, AV.cells, fillA, loadA, takeA, mk, Eff.isAll, Eff.isNone, Eff.commutes, Eff.spares, okPair, apart, eqAgg, fits, LK.fits, allEq, aveq, eqk, mmA, beqT, wrapI, idxI, tdivI, tmodI, decT, decF, ibT, ibF, inT, inF, evScope_c, if_pos, if_neg, g0, g1, g2, g3, g4, g5, g6, g7, g8, g9]
      have tb' : Tr tbl J (.block 1 (.seq c50_o5 (.seq c50_o6 (.seq (.seq c50_o7 (.cond (.s [false, false, true, false, true]) c50_o8 .skip)) (.seq (.seq c50_o9 (.cond (.s [true, true, true, true, true]) (.exit 1) .skip)) (.seq c50_o10 (.seq c50_o11 (.block 2 c50_l0)))))))) _ .normal _ := Tr.block_out (Tr.assoc (Tr.assoc (Tr.assoc (Tr.seq (Tr.assoc' (Tr.assoc' tb)) (Tr.app2 tc (Tr.block ti')))))) (by simp)
      exact Tr.trim_seq ta (Tr.seq tb' te)

theorem acc_past (lot bad n : Int) (k : Nat) (h : n < k) : ∀ j, acc lot bad n (k + j) = acc lot bad n k
  | 0 => rfl
  | j + 1 => by
    rw [← Nat.add_assoc, acc, acc_past lot bad n k h j]
    have : ofZ n ((k + j : Nat) : Int) = 0 := by unfold ofZ; rw [if_neg (by omega)]
    rw [this]; simp
theorem acc_full {lot bad n : Int} (h0 : 0 ≤ n) (h1 : n ≤ lot) (h2 : 0 ≤ bad) (h3 : bad ≤ lot) : acc lot bad n (n.toNat + 1) = ofZ lot bad := by
  rw [← acc_all h0 h1 h2 h3]
  by_cases h : bad ≤ n
  · obtain ⟨j, hj⟩ : ∃ j, n.toNat + 1 = bad.toNat + 1 + j := ⟨n.toNat - bad.toNat, by omega⟩
    rw [hj, acc_over h2]
  · obtain ⟨j, hj⟩ : ∃ j, bad.toNat + 1 = n.toNat + 1 + j := ⟨bad.toNat - n.toNat, by omega⟩
    rw [hj]; exact (acc_past lot bad n (n.toNat + 1) (by omega) j).symm

theorem acc_tm (lot bad n : Int) (k : Nat) : acc lot bad n (k + 1) = acc lot bad n k + tm lot bad n k := rfl
theorem rW_1 : ∀ k : Nat, (k : Int) ≤ c + 1 → rW lot bad n c r m d k = acc lot bad n k ∧ rP lot bad n c r m k = n * (acc lot bad n k : Int)
  | 0, _ => by simp [rW, rP, acc]
  | k + 1, hk => by
    obtain ⟨i1, i2⟩ := rW_1 k (by omega)
    rw [rW, rP, if_pos (by omega), if_pos (.inl (by omega)), i1, i2, acc_tm, Int.natCast_add, Int.mul_add]
    exact ⟨rfl, rfl⟩
theorem rW_2 (hc : 0 ≤ c) (hm : 0 ≤ m) (hd : r - 1 ≤ d) : ∀ i : Nat, c + 1 + i ≤ r → rW lot bad n c r m d (c.toNat + 1 + i) = acc lot bad n (c.toNat + 1) + snd lot bad n c m d i ∧ rP lot bad n c r m (c.toNat + 1 + i) = n * (acc lot bad n (c.toNat + 1 + i) : Int) + m * (sec lot bad n c i : Int)
  | 0, _ => by
    obtain ⟨i1, i2⟩ := rW_1 (lot := lot) (bad := bad) (n := n) (c := c) (r := r) (m := m) (d := d) (c.toNat + 1) (by omega)
    simp only [Nat.add_zero, i1, i2, snd, sec]; simp
  | i + 1, hi => by
    obtain ⟨i1, i2⟩ := rW_2 hc hm hd i (by omega)
    rw [← Nat.add_assoc, rW, rP, if_neg (by omega), if_neg (by omega), if_neg (by omega), i1, i2, acc_tm lot bad n (c.toNat + 1 + i), snd, sec]
    have hin : inn lot bad n m (c.toNat + 1 + i) (jl m d (c.toNat + 1 + i)) = inn lot bad n m (c.toNat + 1 + i) (d - (c.toNat + 1 + i : Nat) + 1).toNat := by
      unfold jl
      split
      · obtain ⟨x, hx⟩ : ∃ x, (d - (c.toNat + 1 + i : Nat) + 1).toNat = (m + 1).toNat + x := ⟨(d - (c.toNat + 1 + i : Nat) + 1).toNat - (m + 1).toNat, by omega⟩
        rw [hx, inn_over _ _ (by omega)]
      · rfl
    rw [hin]
    refine ⟨by omega, ?_⟩
    generalize tm lot bad n (c.toNat + 1 + i) = q
    generalize acc lot bad n (c.toNat + 1 + i) = A
    generalize sec lot bad n c i = S
    rw [Int.natCast_add, Int.natCast_add, Int.mul_add, Int.mul_add]
    omega
theorem rW_3 (hc : 0 ≤ c) (hcr : c + 2 ≤ r) : ∀ i : Nat, rW lot bad n c r m d (r.toNat + i) = rW lot bad n c r m d r.toNat ∧ rP lot bad n c r m (r.toNat + i) = rP lot bad n c r m r.toNat + n * (acc lot bad n (r.toNat + i) : Int) - n * (acc lot bad n r.toNat : Int)
  | 0 => by simp only [Nat.add_zero]; exact ⟨trivial, by omega⟩
  | i + 1 => by
    obtain ⟨i1, i2⟩ := rW_3 hc hcr i
    rw [← Nat.add_assoc, rW, rP, if_neg (by omega), if_pos (by omega), if_pos (.inr (by omega)), i1, i2, acc_tm lot bad n (r.toNat + i)]
    refine ⟨rfl, ?_⟩
    generalize tm lot bad n (r.toNat + i) = q
    generalize acc lot bad n (r.toNat + i) = A
    rw [Int.natCast_add, Int.mul_add]
    omega
theorem r_all (H : HD lot bad n c r m d) : rW lot bad n c r m d (n.toNat + 1) = dblA lot bad n c r m d ∧ rP lot bad n c r m (n.toNat + 1) = dblP lot bad n c r m d := by
  obtain ⟨h1, h2, h3, h4, h5, h6, h7⟩ := H
  obtain ⟨a1, a2⟩ := rW_2 (lot := lot) (bad := bad) (n := n) (c := c) (r := r) (m := m) (d := d) h5.1 (by omega) h7.1 (r - c - 1).toNat (by omega)
  rw [show c.toNat + 1 + (r - c - 1).toNat = r.toNat by omega] at a1 a2
  obtain ⟨j, hj⟩ : ∃ j, n.toNat + 1 = r.toNat + j := ⟨n.toNat + 1 - r.toNat, by omega⟩
  obtain ⟨b1, b2⟩ := rW_3 (lot := lot) (bad := bad) (n := n) (m := m) (d := d) h5.1 h6.1 j
  rw [← hj, a1] at b1
  rw [← hj, a2, acc_full (by omega) h3.2 h2.1 h2.2] at b2
  refine ⟨b1, ?_⟩
  rw [b2]; unfold dblP; omega

theorem c50_ok (J : CallF) (K : Kn J) (hJ : ∀ a h, J 50 a h = none) (H : HD lot bad n c r m d) : CallsTo tbl J 50 [G lot, G bad, .agg [G n, G c, G r, G m, G d]] e0 (.tup [G (dblA lot bad n c r m d), G (dblP lot bad n c r m d)], [], false) := by
  obtain ⟨x1, x2⟩ := r_all H
  have h3 := H.h3
  have h1 := H.h1
  refine Tr.fnv (cf := c50) (e := .ret) (s := T.set (T.set (T.set .leaf [] (G lot)) [false] (G bad)) [true] (.agg [G n, G c, G r, G m, G d])) (by decide) rfl (hJ _ _) rfl rfl rfl (by simp) ?_
  have t0 : Tr tbl J ((.seq c50_o0 (.seq c50_o1 c50_o2))) (fun s h => s = T.set (T.set (T.set .leaf [] (G lot)) [false] (G bad)) [true] (.agg [G n, G c, G r, G m, G d]) ∧ h = ⟨e0.get, 0, []⟩) .normal (fun s h => s.get [] = G lot ∧ s.get [false] = G bad ∧ s.get [true, false, false] = G n ∧ s.get [false, true, false] = G c ∧ s.get [true, true, false] = G r ∧ s.get [false, false, true] = G m ∧ s.get [true, false, true] = G d ∧ s.get [false, true, true] = G 0 ∧ s.get [true, true, true] = G 0) := Tr.region fun s h hp => by
    obtain ⟨rfl, rfl⟩ := hp
    simp (disch := first | omega | exact getEq rfl | exact getO0 | exact Nat.le_of_ble_eq_true rfl) [c50_o0, c50_o1, c50_o2, came_some, goI, List.getElem?_cons_zero, List.getElem?_cons_succ, kn, keep, frameOf, Heap.size, Heap.get, Eff.app, Heap.setOwn, putAt, AV.cells, fillA, loadA, takeA, mk, Eff.isAll, Eff.isNone, Eff.commutes, Eff.spares, okPair, apart, eqAgg, fits, LK.fits, allEq, aveq, eqk, mmA, beqT, wrapI, idxI, tdivI, tmodI, decT, decF, ibT, ibF, inT, inF, evScope_c, if_pos, if_neg]
  have t1 : Tr tbl J (c50_o3) (fun s h => s.get [] = G lot ∧ s.get [false] = G bad ∧ s.get [true, false, false] = G n ∧ s.get [false, true, false] = G c ∧ s.get [true, true, false] = G r ∧ s.get [false, false, true] = G m ∧ s.get [true, false, true] = G d ∧ s.get [false, true, true] = G 0 ∧ s.get [true, true, true] = G 0) .normal (fun s h => s.get [] = G lot ∧ s.get [false] = G bad ∧ s.get [true, false, false] = G n ∧ s.get [false, true, false] = G c ∧ s.get [true, true, false] = G r ∧ s.get [false, false, true] = G m ∧ s.get [true, false, true] = G d ∧ s.get [false, true, true] = G (rW lot bad n c r m d 0) ∧ s.get [true, true, true] = G (rP lot bad n c r m 0) ∧ s.get [false, false, false, false] = G ((0 : Nat) : Int)) := Tr.region fun s h hp => by
    obtain ⟨g0, g1, g2, g3, g4, g5, g6, g7, g8⟩ := hp
    simp (disch := first | omega | exact getEq rfl | exact getO0 | exact Nat.le_of_ble_eq_true rfl) [c50_o3, came_some, goI, List.getElem?_cons_zero, List.getElem?_cons_succ, kn, keep, frameOf, Heap.size, Heap.get, Eff.app, Heap.setOwn, putAt, AV.cells, fillA, loadA, takeA, mk, Eff.isAll, Eff.isNone, Eff.commutes, Eff.spares, okPair, apart, eqAgg, fits, LK.fits, allEq, aveq, eqk, mmA, beqT, wrapI, idxI, tdivI, tmodI, decT, decF, ibT, ibF, inT, inF, evScope_c, if_pos, if_neg, g0, g1, g2, g3, g4, g5, g6, g7, g8, rW, rP]
  have t2 : Tr tbl J ((.trim L50o c50_b1)) (fun s h => s.get [] = G lot ∧ s.get [false] = G bad ∧ s.get [true, false, false] = G n ∧ s.get [false, true, false] = G c ∧ s.get [true, true, false] = G r ∧ s.get [false, false, true] = G m ∧ s.get [true, false, true] = G d ∧ s.get [false, true, true] = G (rW lot bad n c r m d (n.toNat + 1)) ∧ s.get [true, true, true] = G (rP lot bad n c r m (n.toNat + 1)) ∧ s.get [false, false, false, false] = G ((n.toNat + 1 : Nat) : Int)) (.exit 0) (fun s h => s.get [false, true, true] = G (dblA lot bad n c r m d) ∧ s.get [true, true, true] = G (dblP lot bad n c r m d)) := Tr.region fun s h hp => by
    obtain ⟨g0, g1, g2, g3, g4, g5, g6, g7, g8, g9⟩ := hp
    simp (disch := first | omega | exact getEq rfl | exact getO0 | exact Nat.le_of_ble_eq_true rfl) [c50_b1, c50_o4, came_some, goI, List.getElem?_cons_zero, List.getElem?_cons_succ, kn, keep, frameOf, Heap.size, Heap.get, Eff.app, Heap.setOwn, putAt, AV.cells, fillA, loadA, takeA, mk, Eff.isAll, Eff.isNone, Eff.commutes, Eff.spares, okPair, apart, eqAgg, fits, LK.fits, allEq, aveq, eqk, mmA, beqT, wrapI, idxI, tdivI, tmodI, decT, decF, ibT, ibF, inT, inF, evScope_c, if_pos, if_neg, g0, g1, g2, g3, g4, g5, g6, g7, g8, g9, x1, x2]
  have t3 : Tr tbl J ((.seq c50_o16 .ret)) (fun s h => s.get [false, true, true] = G (dblA lot bad n c r m d) ∧ s.get [true, true, true] = G (dblP lot bad n c r m d)) .ret (fun s h => s.get [true, true] = G (dblA lot bad n c r m d) ∧ s.get [false, false, false] = G (dblP lot bad n c r m d)) := Tr.region fun s h hp => by
    obtain ⟨g0, g1⟩ := hp
    simp (disch := first | omega | exact getEq rfl | exact getO0 | exact Nat.le_of_ble_eq_true rfl) [c50_o16, came_some, goI, List.getElem?_cons_zero, List.getElem?_cons_succ, kn, keep, frameOf, Heap.size, Heap.get, Eff.app, Heap.setOwn, putAt, AV.cells, fillA, loadA, takeA, mk, Eff.isAll, Eff.isNone, Eff.commutes, Eff.spares, okPair, apart, eqAgg, fits, LK.fits, allEq, aveq, eqk, mmA, beqT, wrapI, idxI, tdivI, tmodI, decT, decF, ibT, ibF, inT, inF, evScope_c, if_pos, if_neg, g0, g1]
  have tl := Tr.rounds (P := P50 lot bad n c r m d) (M := n.toNat + 1) (fun k hk => rdbl_step J K H k (by omega)) t2 (by simp) 0 (by omega)
  exact Tr.post (fun s h q => by simp [c50, q]) (Tr.app3 t0 (Tr.seq (Tr.seq t1 (Tr.block tl)) t3))
end

def spec46 : SpecV
  | [.int .i64 lot, .int .i64 bad, .agg [.int .i64 n, .int .i64 c, .int .i64 r, .int .i64 m, .int .i64 d]] =>
    some (if lotOk lot bad ∧ dblOk lot n c r m d then .tup [fr (dblA lot bad n c r m d) (ofZ lot bad), fr (dblP lot bad n c r m d) (ofZ lot bad), G 0] else .tup [.agg [G 0, G 0], .agg [G 0, G 0], G 2])
  | _ => none
def spec50 : SpecV
  | [.int .i64 lot, .int .i64 bad, .agg [.int .i64 n, .int .i64 c, .int .i64 r, .int .i64 m, .int .i64 d]] =>
    if lotOk lot bad ∧ dblOk lot n c r m d then some (.tup [G (dblA lot bad n c r m d), G (dblP lot bad n c r m d)]) else none
  | _ => none
theorem hd_ok {lot bad n c r m d : Int} (h : lotOk lot bad ∧ dblOk lot n c r m d) : HD lot bad n c r m d := ⟨h.1.1, h.1.2, h.2.1, h.2.2.1, h.2.2.2.1, h.2.2.2.2.1, h.2.2.2.2.2⟩

end Go.Proofs.Ytlkgpcfhpeilhaa.Ev
