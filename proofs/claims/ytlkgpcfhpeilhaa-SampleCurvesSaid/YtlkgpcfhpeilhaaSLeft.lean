/-
  What Left and the reference's Left answer: the greatest mean number of bad pieces that are left. No condition.
-/
import Derived.Test.YtlkgpcfhpeilhaaSFalls
set_option linter.unusedVariables false
set_option linter.unusedSimpArgs false
namespace Go.Proofs.Ytlkgpcfhpeilhaa.Ev
open Go Go.AEv

attribute [local simp] evFunc initS evOps_c evTrim_c evSkip_c evExit_c evRet_c evSeq_c evCond_c evBlock_c evDraw_c runOps_n runOps_c exec_n exec_g pure1_c act AOpd.ev T.get T.set T.put evBin evUn forceT_eq forceV_eq forceL_eq evRess evRes one keep runFP_n runFP_c app_none AV.flats AV.flat

/-! ### Plain arithmetic -/
/-- The bad pieces behind the first n, over all ways with less than m bad ones among these. -/
def lft (lot bad n : Int) : Nat → Int
  | 0 => 0
  | m + 1 => lft lot bad n m + (ofZ n m : Int) * (ofZ (lot - n) (bad - m) : Int) * (bad - m)

theorem ofZ_absorb (n k : Int) (hn : 1 ≤ n) : (ofZ n k : Int) * k = n * (ofZ (n - 1) (k - 1) : Int) := by
  by_cases h0 : 1 ≤ k
  · by_cases h1 : k ≤ n
    · obtain ⟨N, rfl⟩ : ∃ N : Nat, n = (N : Int) + 1 := ⟨(n - 1).toNat, by omega⟩
      obtain ⟨K, rfl⟩ : ∃ K : Nat, k = (K : Int) + 1 := ⟨(k - 1).toNat, by omega⟩
      have e1 : ofZ ((N : Int) + 1) ((K : Int) + 1) = ch (N + 1) (K + 1) := by unfold ofZ; rw [if_pos ⟨by omega, h1⟩]; rfl
      have e2 : ofZ ((N : Int) + 1 - 1) ((K : Int) + 1 - 1) = ch N K := by
        unfold ofZ; rw [if_pos (by omega)]
        rw [show ((N : Int) + 1 - 1).toNat = N by omega, show ((K : Int) + 1 - 1).toNat = K by omega]
      rw [e1, e2]
      have := ch_absorb N K
      have h : ((ch (N + 1) (K + 1) * (K + 1) : Nat) : Int) = (((N + 1) * ch N K : Nat) : Int) := by rw [Nat.mul_comm, this]
      simpa using h
    · have e1 : ofZ n k = 0 := by unfold ofZ; rw [if_neg (by omega)]
      have e2 : ofZ (n - 1) (k - 1) = 0 := by unfold ofZ; rw [if_neg (by omega)]
      rw [e1, e2]; simp
  · have e2 : ofZ (n - 1) (k - 1) = 0 := by unfold ofZ; rw [if_neg (by omega)]
    rw [e2]
    by_cases h1 : k = 0
    · subst h1; simp
    · have e1 : ofZ n k = 0 := by unfold ofZ; rw [if_neg (by omega)]
      rw [e1]; simp

theorem lft_acc (lot bad n : Int) (h : n + 1 ≤ lot) : ∀ m, lft lot bad n m = (lot - n) * (acc (lot - 1) (bad - 1) n m : Int)
  | 0 => by simp [lft, acc]
  | m + 1 => by
    rw [lft, lft_acc lot bad n h m, acc, Int.natCast_add, Int.mul_add, Int.mul_assoc, ofZ_absorb (lot - n) (bad - m) (by omega), Int.natCast_mul]
    rw [Int.mul_left_comm, show lot - n - 1 = lot - 1 - n by omega, show bad - (m : Int) - 1 = bad - 1 - m by omega]
theorem lft_all (bad n : Int) : ∀ m, lft n bad n m = 0
  | 0 => rfl
  | m + 1 => by
    rw [lft, lft_all bad n m]
    by_cases h : bad - m = 0
    · rw [h]; simp
    · have : ofZ (n - n) (bad - m) = 0 := by unfold ofZ; rw [if_neg (by omega)]
      rw [this]; simp
theorem acc_neg {lot bad n : Int} (h : bad < 0) : ∀ m, acc lot bad n m = 0
  | 0 => rfl
  | m + 1 => by
    rw [acc, acc_neg h m]
    have : ofZ (lot - n) (bad - m) = 0 := by unfold ofZ; rw [if_neg (by omega)]
    rw [this]; simp
theorem ch_two : ∀ n k, ch n k + ch n (k + 1) ≤ 2 ^ n
  | 0, 0 => by simp [ch]
  | 0, k + 1 => by simp [ch]
  | n + 1, 0 => by
    have h := ch_two n 0
    have e : ch (n + 1) (0 + 1) = ch n 0 + ch n (0 + 1) := rfl
    have e0 : ch (n + 1) 0 = 1 := ch_zero _
    have e1 : ch n 0 = 1 := ch_zero _
    have e2 : 1 ≤ 2 ^ n := Nat.one_le_two_pow
    rw [Nat.pow_succ]; omega
  | n + 1, k + 1 => by
    have h := ch_two n k
    have h' := ch_two n (k + 1)
    have e : ch (n + 1) (k + 1) = ch n k + ch n (k + 1) := rfl
    have e' : ch (n + 1) (k + 1 + 1) = ch n (k + 1) + ch n (k + 1 + 1) := rfl
    rw [Nat.pow_succ]; omega
theorem ofZ_half (n k : Int) (h : n ≤ 35) : ofZ n k ≤ 2 ^ 34 := by
  unfold ofZ
  split
  · rename_i hk
    obtain ⟨N, rfl⟩ : ∃ N : Nat, n = N := ⟨n.toNat, by omega⟩
    obtain ⟨K, rfl⟩ : ∃ K : Nat, k = K := ⟨k.toNat, by omega⟩
    simp only [Int.toNat_natCast]
    cases N with
    | zero => have := ch_le 0 K; omega
    | succ N =>
      have hp : 2 ^ N ≤ 2 ^ 34 := Nat.pow_le_pow_right (by omega) (by omega)
      cases K with
      | zero => rw [ch_zero]; omega
      | succ K =>
        have := ch_two N K
        have e : ch (N + 1) (K + 1) = ch N K + ch N (K + 1) := rfl
        omega
  · omega

/-- How great it is. -/
theorem lft_in {lot bad n : Int} (h0 : 1 ≤ n) (h1 : n ≤ lot) (h2 : lot ≤ 36) (h3 : bad ≤ lot) (m : Nat) : 0 ≤ lft lot bad n m ∧ lft lot bad n m ≤ 601295421440 := by
  by_cases h : n + 1 ≤ lot
  · rw [lft_acc lot bad n h]
    have hb : acc (lot - 1) (bad - 1) n m ≤ 17179869184 := by
      by_cases hb : 1 ≤ bad
      · have := acc_le_all (lot := lot - 1) (bad := bad - 1) (n := n) (by omega) (by omega) (by omega) (by omega) m
        have := ofZ_half (lot - 1) (bad - 1) (by omega)
        omega
      · rw [acc_neg (by omega)]; omega
    exact mul_bd (x := lot - n) (X := 35) (by omega) (by omega) (by omega) (by omega : _ ≤ (17179869184 : Int))
  · obtain rfl : n = lot := by omega
    rw [lft_all]; omega

theorem lft_over (lot bad n : Int) (m : Nat) (h : bad ≤ m) : ∀ j, lft lot bad n (m + j) = lft lot bad n m
  | 0 => rfl
  | j + 1 => by
    rw [← Nat.add_assoc, lft, lft_over lot bad n m h j]
    by_cases hz : bad - ((m + j : Nat) : Int) = 0
    · rw [hz]; simp
    · have : ofZ (lot - n) (bad - ((m + j : Nat) : Int)) = 0 := by unfold ofZ; rw [if_neg (by omega)]
      rw [this]; simp
theorem lft_up {lot bad n : Int} (m : Nat) : lft lot bad n m ≤ lft lot bad n (m + 1) := by
  rw [lft]
  have : 0 ≤ (ofZ n m : Int) * (ofZ (lot - n) (bad - m) : Int) * (bad - m) := by
    by_cases h : 0 ≤ bad - m
    · exact Int.mul_nonneg (Int.mul_nonneg (by omega) (by omega)) h
    · have : ofZ (lot - n) (bad - m) = 0 := by unfold ofZ; rw [if_neg (by omega)]
      rw [this]; simp
  omega

/-! ### The reference's Left -/
theorem rleft_step (J : CallF) (K : Kn J) {lot bad n c : Int} (h0 : 1 ≤ n) (h1 : n ≤ lot) (h2 : lot ≤ 36) (h3 : 0 ≤ bad ∧ bad ≤ lot) (h4 : 0 ≤ c ∧ c < n) (H : Heap) (m : Nat) (hm : (m : Int) ≤ c) :
    Tr tbl J (.trim [[], [false], [true], [false, false], [false, true, false], [true, true, false]] c37_b0) (fun s h => s.get [] = G lot ∧ s.get [false] = G bad ∧ s.get [true] = G n ∧ s.get [false, false] = G c ∧ s.get [false, true, false] = G (lft lot bad n m) ∧ s.get [true, true, false] = G m) .normal (fun s h => s.get [] = G lot ∧ s.get [false] = G bad ∧ s.get [true] = G n ∧ s.get [false, false] = G c ∧ s.get [false, true, false] = G (lft lot bad n (m + 1)) ∧ s.get [true, true, false] = G ((m + 1 : Nat) : Int)) := by
  have b1 := acc_term lot bad n m (by omega) h1 h2
  have b2 := lft_in h0 h1 h2 h3.2 m
  have b3 := lft_in h0 h1 h2 h3.2 (m + 1)
  have e : lft lot bad n (m + 1) = lft lot bad n m + (ofZ n m : Int) * (ofZ (lot - n) (bad - m) : Int) * (bad - m) := rfl
  have b4 : 0 ≤ (ofZ n m : Int) * (ofZ (lot - n) (bad - m) : Int) ∧ (ofZ n m : Int) * (ofZ (lot - n) (bad - m) : Int) ≤ 68719476736 := by rw [← Int.natCast_mul]; omega
  rw [e] at b3 ⊢
  generalize hp : (ofZ n m : Int) * (ofZ (lot - n) (bad - m) : Int) = p at *
  generalize hq : p * (bad - m) = q at *
  have t : Tr tbl J ((.trim [[], [false], [true], [false, false], [false, true, false], [true, true, false]] c37_b0)) (fun s h => s.get [] = G lot ∧ s.get [false] = G bad ∧ s.get [true] = G n ∧ s.get [false, false] = G c ∧ s.get [false, true, false] = G (lft lot bad n m) ∧ s.get [true, true, false] = G m) .normal (fun s h => s.get [] = G lot ∧ s.get [false] = G bad ∧ s.get [true] = G n ∧ s.get [false, false] = G c ∧ s.get [false, true, false] = G (lft lot bad n m + q) ∧ s.get [true, true, false] = G ((m + 1 : Nat) : Int)) := Tr.region fun s h hp => by
    obtain ⟨g0, g1, g2, g3, g4, g5⟩ := hp
    simp (disch := first | omega | exact getEq rfl | exact getO0 | exact Nat.le_of_ble_eq_true rfl) [c37_b0, c37_o3, c37_o4, c37_o5, came_some, goI, List.getElem?_cons_zero, List.getElem?_cons_succ, kn, keep, frameOf, Heap.size, Heap.get, Eff.app, Heap.setOwn, putAt, AV.cells, fillA, loadA, takeA, mk, Eff.isAll, Eff.isNone, Eff.commutes, Eff.spares, okPair, apart, eqAgg, fits, LK.fits, allEq, aveq, eqk, mmA, beqT, wrapI, idxI, tdivI, tmodI, decT, decF, ibT, ibF, inT, inF, evScope_c, if_pos, if_neg, g0, g1, g2, g3, g4, g5, K.k29, hp, hq]
  exact t

theorem c37_ok (J : CallF) (K : Kn J) (hJ : ∀ a h, J 37 a h = none) {lot bad n c : Int} (h0 : 1 ≤ n) (h1 : n ≤ lot) (h2 : lot ≤ 36) (h3 : 0 ≤ bad ∧ bad ≤ lot) (h4 : 0 ≤ c ∧ c < n) : CallsTo tbl J 37 [G lot, G bad, G n, G c] e0 (G (lft lot bad n (c.toNat + 1)), [], false) := by
  refine Tr.fnv (cf := c37) (e := .ret) (s := T.set (T.set (T.set (T.set .leaf [] (G lot)) [false] (G bad)) [true] (G n)) [false, false] (G c)) (by decide) rfl (hJ _ _) rfl rfl rfl (by simp) ?_
  have t0 : Tr tbl J ((.seq c37_o0 c37_o1)) (fun s h => s = T.set (T.set (T.set (T.set .leaf [] (G lot)) [false] (G bad)) [true] (G n)) [false, false] (G c) ∧ h = frameOf e0) .normal (fun s h => s.get [] = G lot ∧ s.get [false] = G bad ∧ s.get [true] = G n ∧ s.get [false, false] = G c ∧ s.get [false, true, false] = G 0) := Tr.region fun s h hp => by
    obtain ⟨rfl, rfl⟩ := hp
    simp (disch := first | omega | exact getEq rfl | exact getO0 | exact Nat.le_of_ble_eq_true rfl) [c37_o0, c37_o1, came_some, goI, List.getElem?_cons_zero, List.getElem?_cons_succ, kn, keep, frameOf, Heap.size, Heap.get, Eff.app, Heap.setOwn, putAt, AV.cells, fillA, loadA, takeA, mk, Eff.isAll, Eff.isNone, Eff.commutes, Eff.spares, okPair, apart, eqAgg, fits, LK.fits, allEq, aveq, eqk, mmA, beqT, wrapI, idxI, tdivI, tmodI, decT, decF, ibT, ibF, inT, inF, evScope_c, if_pos, if_neg]
  have t1 : Tr tbl J (c37_o2) (fun s h => s.get [] = G lot ∧ s.get [false] = G bad ∧ s.get [true] = G n ∧ s.get [false, false] = G c ∧ s.get [false, true, false] = G 0) .normal (fun s h => s.get [] = G lot ∧ s.get [false] = G bad ∧ s.get [true] = G n ∧ s.get [false, false] = G c ∧ s.get [false, true, false] = G (lft lot bad n 0) ∧ s.get [true, true, false] = G ((0 : Nat) : Int)) := Tr.region fun s h hp => by
    obtain ⟨g0, g1, g2, g3, g4⟩ := hp
    simp (disch := first | omega | exact getEq rfl | exact getO0 | exact Nat.le_of_ble_eq_true rfl) [c37_o2, came_some, goI, List.getElem?_cons_zero, List.getElem?_cons_succ, kn, keep, frameOf, Heap.size, Heap.get, Eff.app, Heap.setOwn, putAt, AV.cells, fillA, loadA, takeA, mk, Eff.isAll, Eff.isNone, Eff.commutes, Eff.spares, okPair, apart, eqAgg, fits, LK.fits, allEq, aveq, eqk, mmA, beqT, wrapI, idxI, tdivI, tmodI, decT, decF, ibT, ibF, inT, inF, evScope_c, if_pos, if_neg, g0, g1, g2, g3, g4, lft]
  have t2 : Tr tbl J ((.trim [[], [false], [true], [false, false], [false, true, false], [true, true, false]] c37_b0)) (fun s h => s.get [] = G lot ∧ s.get [false] = G bad ∧ s.get [true] = G n ∧ s.get [false, false] = G c ∧ s.get [false, true, false] = G (lft lot bad n (c.toNat + 1)) ∧ s.get [true, true, false] = G ((c.toNat + 1 : Nat) : Int)) (.exit 0) (fun s h => s.get [false, true, false] = G (lft lot bad n (c.toNat + 1))) := Tr.region fun s h hp => by
    obtain ⟨g0, g1, g2, g3, g4, g5⟩ := hp
    simp (disch := first | omega | exact getEq rfl | exact getO0 | exact Nat.le_of_ble_eq_true rfl) [c37_b0, c37_o3, came_some, goI, List.getElem?_cons_zero, List.getElem?_cons_succ, kn, keep, frameOf, Heap.size, Heap.get, Eff.app, Heap.setOwn, putAt, AV.cells, fillA, loadA, takeA, mk, Eff.isAll, Eff.isNone, Eff.commutes, Eff.spares, okPair, apart, eqAgg, fits, LK.fits, allEq, aveq, eqk, mmA, beqT, wrapI, idxI, tdivI, tmodI, decT, decF, ibT, ibF, inT, inF, evScope_c, if_pos, if_neg, g0, g1, g2, g3, g4, g5]
  have t3 : Tr tbl J ((.seq c37_o6 .ret)) (fun s h => s.get [false, true, false] = G (lft lot bad n (c.toNat + 1))) .ret (fun s h => s.get [true, false, false] = G (lft lot bad n (c.toNat + 1))) := Tr.region fun s h hp => by
    have g0 := hp
    simp (disch := first | omega | exact getEq rfl | exact getO0 | exact Nat.le_of_ble_eq_true rfl) [c37_o6, came_some, goI, List.getElem?_cons_zero, List.getElem?_cons_succ, kn, keep, frameOf, Heap.size, Heap.get, Eff.app, Heap.setOwn, putAt, AV.cells, fillA, loadA, takeA, mk, Eff.isAll, Eff.isNone, Eff.commutes, Eff.spares, okPair, apart, eqAgg, fits, LK.fits, allEq, aveq, eqk, mmA, beqT, wrapI, idxI, tdivI, tmodI, decT, decF, ibT, ibF, inT, inF, evScope_c, if_pos, if_neg, g0]
  have tl := Tr.rounds (P := fun m => (fun s h => s.get [] = G lot ∧ s.get [false] = G bad ∧ s.get [true] = G n ∧ s.get [false, false] = G c ∧ s.get [false, true, false] = G (lft lot bad n m) ∧ s.get [true, true, false] = G m)) (M := c.toNat + 1) (fun m hm => rleft_step J K h0 h1 h2 h3 h4 e0 m (by omega)) t2 (by simp) 0 (by omega)
  exact Tr.post (fun s h q => by simp [c37, q]) (Tr.app2 t0 (Tr.seq (Tr.seq t1 (Tr.block tl)) t3))

/-! ### Left -/
def lU (lot n c : Int) (b : Nat) : Int := frU (lft lot b n (c.toNat + 1)) (ofZ lot b)
def lV (lot n c : Int) (b : Nat) : Int := frV (lft lot b n (c.toNat + 1)) (ofZ lot b)
theorem fr_l (lot n c : Int) (b : Nat) : fr (lft lot b n (c.toNat + 1)) (ofZ lot b) = .agg [G (lU lot n c b), G (lV lot n c b)] := rfl
structure Best where
  u : Int
  v : Int
  a : Nat
/-- The greatest one among the first m, and where it is first. -/
def bst (U V : Nat → Int) : Nat → Best
  | 0 => ⟨0, 1, 0⟩
  | m + 1 => if (bst U V m).u * V m < U m * (bst U V m).v then ⟨U m, V m, m⟩ else bst U V m
def lts (U V : Nat → Int) : Nat → List AObj
  | 0 => []
  | m + 1 => lts U V m ++ [.cells 0 2 [G (U m), G (V m)]]
theorem lts_len (U V : Nat → Int) : ∀ m, (lts U V m).length = m
  | 0 => rfl
  | m + 1 => by simp [lts, lts_len U V m]

/-- The chance in lowest terms, and what it is made of. -/
theorem lUV {lot n c : Int} (h1 : 1 ≤ lot ∧ lot ≤ 36) (h3 : 1 ≤ n ∧ n ≤ lot) (d : Nat) (h2 : (d : Int) ≤ lot) : ∃ g : Int, 0 < g ∧ lft lot d n (c.toNat + 1) = g * lU lot n c d ∧ (ofZ lot d : Int) = g * lV lot n c d ∧ vOk (lU lot n c d) (lV lot n c d) := by
  have q := ofZ_pos (n := lot) (k := (d : Int)) (by omega) h2
  have b := ofZ_le lot d 36 (by omega)
  have l := lft_in (lot := lot) (bad := d) (n := n) h3.1 h3.2 h1.2 h2 (c.toNat + 1)
  obtain ⟨g, u, v, a1, a2, a3, a4, a5, a6, a7⟩ := fr_two (x := lft lot d n (c.toNat + 1)) (y := ofZ lot d) l.1 (by omega)
  rw [fr_l] at a4
  simp only [AV.agg.injEq, List.cons.injEq, AV.int.injEq, and_true, true_and] at a4
  obtain ⟨rfl, rfl⟩ := a4
  exact ⟨g, a1, a2, a3, ⟨a5.1, by omega⟩, ⟨a6.1, by omega⟩, a7⟩

theorem bst_ok {lot n c : Int} (h1 : 1 ≤ lot ∧ lot ≤ 36) (h3 : 1 ≤ n ∧ n ≤ lot) : ∀ m : Nat, (m : Int) ≤ lot + 1 → vOk (bst (lU lot n c) (lV lot n c) m).u (bst (lU lot n c) (lV lot n c) m).v ∧ (bst (lU lot n c) (lV lot n c) m).a ≤ 36
  | 0, _ => ⟨show vOk 0 1 from by unfold vOk; decide, by simp [bst]⟩
  | m + 1, h => by
    have ih := bst_ok (c := c) h1 h3 m (by omega)
    obtain ⟨g, a1, a2, a3, a4⟩ := lUV (c := c) h1 h3 m (by omega)
    unfold bst
    split
    · exact ⟨a4, by simp only; omega⟩
    · exact ih

section
variable {lot n c : Int}
def H36 (u v : Int) (ts : List AObj) : Heap := ⟨e0.get, 0, .cells 0 2 [G 0, G 0] :: .cells 0 1369 (tri 37 0) :: .cells 0 2 [G u, G v] :: ts⟩
abbrev L36i : List Path := [[], [false], [true], [true, true], [false, true, false], [true, true, false], [false, false, true], [true, false, true], [false, true, true], [true, true, true, true], [false, false, false, false, false], [false, true, true, false, false], [true, true, true, false, false]]
abbrev L36o : List Path := [[], [false], [true], [true, true], [false, true, false], [true, true, false], [false, false, true], [true, true, true, true], [false, false, false, false, false]]

theorem left_in (J : CallF) (K : Kn J) (h0 : 1 ≤ n) (h1 : n ≤ lot) (h2 : lot ≤ 36) (b : Nat) (hb : (b : Int) ≤ lot) (at' : Int) (u v : Int) (ts : List AObj) (M : Nat) (hM : (M : Int) ≤ b + 1) :
    Tr tbl J c36_l0 (fun s h => s.get [] = G lot ∧ s.get [false] = G n ∧ s.get [true] = G c ∧ s.get [true, true] = .ptr 0 0 2 ∧ s.get [false, true, false] = .ptr 1 0 1369 ∧ s.get [true, true, false] = .ptr 2 0 2 ∧ s.get [false, false, true] = G at' ∧ s.get [true, false, true] = G b ∧ s.get [false, true, true] = G (lft lot b n 0) ∧ s.get [true, true, true, true] = G (lot + 1) ∧ s.get [false, false, false, false, false] = G b ∧ s.get [false, true, true, false, false] = G M ∧ s.get [true, true, true, false, false] = G ((0 : Nat) : Int) ∧ h = H36 u v ts) (.exit 2) (fun s h => s.get [] = G lot ∧ s.get [false] = G n ∧ s.get [true] = G c ∧ s.get [true, true] = .ptr 0 0 2 ∧ s.get [false, true, false] = .ptr 1 0 1369 ∧ s.get [true, true, false] = .ptr 2 0 2 ∧ s.get [false, false, true] = G at' ∧ s.get [true, false, true] = G b ∧ s.get [false, true, true] = G (lft lot b n M) ∧ s.get [true, true, true, true] = G (lot + 1) ∧ s.get [false, false, false, false, false] = G b ∧ h = H36 u v ts) := by
  refine Tr.rounds (P := fun m => (fun s h => s.get [] = G lot ∧ s.get [false] = G n ∧ s.get [true] = G c ∧ s.get [true, true] = .ptr 0 0 2 ∧ s.get [false, true, false] = .ptr 1 0 1369 ∧ s.get [true, true, false] = .ptr 2 0 2 ∧ s.get [false, false, true] = G at' ∧ s.get [true, false, true] = G b ∧ s.get [false, true, true] = G (lft lot b n m) ∧ s.get [true, true, true, true] = G (lot + 1) ∧ s.get [false, false, false, false, false] = G b ∧ s.get [false, true, true, false, false] = G M ∧ s.get [true, true, true, false, false] = G m ∧ h = H36 u v ts)) (M := M) (fun m hm => ?_) ?_ (by simp) 0 (by omega)
  · have b1 := acc_term lot b n m (by omega) h1 h2
    have b2 := lft_in (bad := b) h0 h1 h2 hb m
    have b3 := lft_in (bad := b) h0 h1 h2 hb (m + 1)
    have e : lft lot b n (m + 1) = lft lot b n m + (ofZ n m : Int) * (ofZ (lot - n) (b - m) : Int) * (b - m) := rfl
    have b4 : 0 ≤ (ofZ n m : Int) * (ofZ (lot - n) (b - m) : Int) ∧ (ofZ n m : Int) * (ofZ (lot - n) (b - m) : Int) ≤ 68719476736 := by rw [← Int.natCast_mul]; omega
    rw [e] at b3 ⊢
    have b5 : 0 ≤ (ofZ n m : Int) * (ofZ (lot - n) (b - m) : Int) * (b - m) := Int.mul_nonneg b4.1 (by omega)
    generalize hp : (ofZ n m : Int) * (ofZ (lot - n) (b - m) : Int) = p at *
    generalize hq : p * ((b : Int) - m) = q at *
    have t : Tr tbl J ((.trim L36i c36_b0)) (fun s h => s.get [] = G lot ∧ s.get [false] = G n ∧ s.get [true] = G c ∧ s.get [true, true] = .ptr 0 0 2 ∧ s.get [false, true, false] = .ptr 1 0 1369 ∧ s.get [true, true, false] = .ptr 2 0 2 ∧ s.get [false, false, true] = G at' ∧ s.get [true, false, true] = G b ∧ s.get [false, true, true] = G (lft lot b n m) ∧ s.get [true, true, true, true] = G (lot + 1) ∧ s.get [false, false, false, false, false] = G b ∧ s.get [false, true, true, false, false] = G M ∧ s.get [true, true, true, false, false] = G m ∧ h = H36 u v ts) .normal (fun s h => s.get [] = G lot ∧ s.get [false] = G n ∧ s.get [true] = G c ∧ s.get [true, true] = .ptr 0 0 2 ∧ s.get [false, true, false] = .ptr 1 0 1369 ∧ s.get [true, true, false] = .ptr 2 0 2 ∧ s.get [false, false, true] = G at' ∧ s.get [true, false, true] = G b ∧ s.get [false, true, true] = G (lft lot b n m + q) ∧ s.get [true, true, true, true] = G (lot + 1) ∧ s.get [false, false, false, false, false] = G b ∧ s.get [false, true, true, false, false] = G M ∧ s.get [true, true, true, false, false] = G ((m + 1 : Nat) : Int) ∧ h = H36 u v ts) := Tr.region fun s h hp => by
      obtain ⟨g0, g1, g2, g3, g4, g5, g6, g7, g8, g9, g10, g11, g12, rfl⟩ := hp
      simp (disch := first | omega | exact getEq rfl | exact getO0 | exact Nat.le_of_ble_eq_true rfl) [c36_b0, c36_o10, c36_o11, c36_o12, c36_o13, came_some, goI, List.getElem?_cons_zero, List.getElem?_cons_succ, kn, keep, frameOf, Heap.size, Heap.get, Eff.app, Heap.setOwn, putAt, AV.cells, fillA, loadA, takeA, mk, Eff.isAll, Eff.isNone, Eff.commutes, Eff.spares, okPair, apart, eqAgg, fits, LK.fits, allEq, aveq, eqk, mmA, beqT, wrapI, idxI, tdivI, tmodI, decT, decF, ibT, ibF, inT, inF, evScope_c, if_pos, if_neg, g0, g1, g2, g3, g4, g5, g6, g7, g8, g9, g10, g11, g12, K.k58, hp, hq]
    exact t
  ·
    have t : Tr tbl J ((.trim L36i c36_b0)) (fun s h => s.get [] = G lot ∧ s.get [false] = G n ∧ s.get [true] = G c ∧ s.get [true, true] = .ptr 0 0 2 ∧ s.get [false, true, false] = .ptr 1 0 1369 ∧ s.get [true, true, false] = .ptr 2 0 2 ∧ s.get [false, false, true] = G at' ∧ s.get [true, false, true] = G b ∧ s.get [false, true, true] = G (lft lot b n M) ∧ s.get [true, true, true, true] = G (lot + 1) ∧ s.get [false, false, false, false, false] = G b ∧ s.get [false, true, true, false, false] = G M ∧ s.get [true, true, true, false, false] = G M ∧ h = H36 u v ts) (.exit 2) (fun s h => s.get [] = G lot ∧ s.get [false] = G n ∧ s.get [true] = G c ∧ s.get [true, true] = .ptr 0 0 2 ∧ s.get [false, true, false] = .ptr 1 0 1369 ∧ s.get [true, true, false] = .ptr 2 0 2 ∧ s.get [false, false, true] = G at' ∧ s.get [true, false, true] = G b ∧ s.get [false, true, true] = G (lft lot b n M) ∧ s.get [true, true, true, true] = G (lot + 1) ∧ s.get [false, false, false, false, false] = G b ∧ h = H36 u v ts) := Tr.region fun s h hp => by
      obtain ⟨g0, g1, g2, g3, g4, g5, g6, g7, g8, g9, g10, g11, g12, rfl⟩ := hp
      simp (disch := first | omega | exact getEq rfl | exact getO0 | exact Nat.le_of_ble_eq_true rfl) [c36_b0, c36_o10, came_some, goI, List.getElem?_cons_zero, List.getElem?_cons_succ, kn, keep, frameOf, Heap.size, Heap.get, Eff.app, Heap.setOwn, putAt, AV.cells, fillA, loadA, takeA, mk, Eff.isAll, Eff.isNone, Eff.commutes, Eff.spares, okPair, apart, eqAgg, fits, LK.fits, allEq, aveq, eqk, mmA, beqT, wrapI, idxI, tdivI, tmodI, decT, decF, ibT, ibF, inT, inF, evScope_c, if_pos, if_neg, g0, g1, g2, g3, g4, g5, g6, g7, g8, g9, g10, g11, g12]
    exact t

abbrev P36 (lot n c : Int) (b : Nat) : SP := (fun s h => s.get [] = G lot ∧ s.get [false] = G n ∧ s.get [true] = G c ∧ s.get [true, true] = .ptr 0 0 2 ∧ s.get [false, true, false] = .ptr 1 0 1369 ∧ s.get [true, true, false] = .ptr 2 0 2 ∧ s.get [false, false, true] = G (bst (lU lot n c) (lV lot n c) b).a ∧ s.get [true, true, true, true] = G (lot + 1) ∧ s.get [false, false, false, false, false] = G b ∧ h = H36 (bst (lU lot n c) (lV lot n c) b).u (bst (lU lot n c) (lV lot n c) b).v (lts (lU lot n c) (lV lot n c) b))

theorem left_step (J : CallF) (K : Kn J) (h0 : 1 ≤ n) (h1 : n ≤ lot) (h2 : lot ≤ 36) (h4 : 0 ≤ c ∧ c < n) (b : Nat) (hb : (b : Int) ≤ lot) : Tr tbl J (.trim L36o c36_b1) (P36 lot n c b) .normal (P36 lot n c (b + 1)) := by
  obtain ⟨M, hM, hM1, hM2⟩ : ∃ M : Nat, (M : Int) = (if (b : Int) < c then (b : Int) else c) + 1 ∧ lft lot b n M = lft lot b n (c.toNat + 1) ∧ (M : Int) ≤ b + 1 := by
    by_cases h : (b : Int) < c
    · refine ⟨b + 1, by rw [if_pos h]; omega, ?_, by omega⟩
      obtain ⟨j, hj⟩ : ∃ j, c.toNat + 1 = b + 1 + j := ⟨c.toNat - b, by omega⟩
      rw [hj]; exact (lft_over lot b n (b + 1) (by omega) j).symm
    · exact ⟨c.toNat + 1, by rw [if_neg h]; omega, rfl, by omega⟩
  obtain ⟨g, a1, a2, a3, a4⟩ := lUV (c := c) ⟨by omega, h2⟩ ⟨h0, h1⟩ b hb
  obtain ⟨bo, bo2⟩ := bst_ok (c := c) (lot := lot) (n := n) ⟨by omega, h2⟩ ⟨h0, h1⟩ b (by omega)
  have q1 := ofZ_le lot b 36 (by omega)
  have q2 := ofZ_pos (n := lot) (k := (b : Int)) (by omega) hb
  have q3 := lft_in (bad := b) h0 h1 h2 hb (c.toNat + 1)
  have e1 := fr_l lot n c b
  have l1 := lts_len (lU lot n c) (lV lot n c) b
  have et : lts (lU lot n c) (lV lot n c) (b + 1) = lts (lU lot n c) (lV lot n c) b ++ [.cells 0 2 [G (lU lot n c b), G (lV lot n c b)]] := rfl
  have eb : bst (lU lot n c) (lV lot n c) (b + 1) = if (bst (lU lot n c) (lV lot n c) b).u * lV lot n c b < lU lot n c b * (bst (lU lot n c) (lV lot n c) b).v then ⟨lU lot n c b, lV lot n c b, b⟩ else bst (lU lot n c) (lV lot n c) b := rfl
  unfold P36
  rw [et, eb]
  generalize hB : bst (lU lot n c) (lV lot n c) b = B at *
  obtain ⟨u, v, a⟩ := B
  simp only at bo bo2 eb
  generalize lts (lU lot n c) (lV lot n c) b = ts at *
  generalize lU lot n c b = p at *
  generalize lV lot n c b = q at *
  obtain ⟨⟨v1, v2⟩, ⟨v3, v4⟩, _⟩ := a4
  obtain ⟨⟨w1, w2⟩, ⟨w3, w4⟩, _⟩ := bo
  have ta : Tr tbl J ((.trim L36o (.seq c36_o6 (.cond (.s [true, false, false, false, false]) .skip (.exit 0))))) (fun s h => s.get [] = G lot ∧ s.get [false] = G n ∧ s.get [true] = G c ∧ s.get [true, true] = .ptr 0 0 2 ∧ s.get [false, true, false] = .ptr 1 0 1369 ∧ s.get [true, true, false] = .ptr 2 0 2 ∧ s.get [false, false, true] = G a ∧ s.get [true, true, true, true] = G (lot + 1) ∧ s.get [false, false, false, false, false] = G b ∧ h = H36 u v ts) .normal (fun s h => s.get [] = G lot ∧ s.get [false] = G n ∧ s.get [true] = G c ∧ s.get [true, true] = .ptr 0 0 2 ∧ s.get [false, true, false] = .ptr 1 0 1369 ∧ s.get [true, true, false] = .ptr 2 0 2 ∧ s.get [false, false, true] = G a ∧ s.get [true, true, true, true] = G (lot + 1) ∧ s.get [false, false, false, false, false] = G b ∧ h = H36 u v ts) := Tr.region fun s h hp => by
    obtain ⟨g0, g1, g2, g3, g4, g5, g6, g7, g8, rfl⟩ := hp
    simp (disch := first | omega | exact getEq rfl | exact getO0 | exact Nat.le_of_ble_eq_true rfl) [c36_o6, came_some, goI, List.getElem?_cons_zero, List.getElem?_cons_succ, kn, keep, frameOf, Heap.size, Heap.get, Eff.app, Heap.setOwn, putAt, AV.cells, fillA, loadA, takeA, mk, Eff.isAll, Eff.isNone, Eff.commutes, Eff.spares, okPair, apart, eqAgg, fits, LK.fits, allEq, aveq, eqk, mmA, beqT, wrapI, idxI, tdivI, tmodI, decT, decF, ibT, ibF, inT, inF, evScope_c, if_pos, if_neg, g0, g1, g2, g3, g4, g5, g6, g7, g8]
  have tb : Tr tbl J ((.seq c36_o7 c36_o8)) (fun s h => s.get [] = G lot ∧ s.get [false] = G n ∧ s.get [true] = G c ∧ s.get [true, true] = .ptr 0 0 2 ∧ s.get [false, true, false] = .ptr 1 0 1369 ∧ s.get [true, true, false] = .ptr 2 0 2 ∧ s.get [false, false, true] = G a ∧ s.get [true, true, true, true] = G (lot + 1) ∧ s.get [false, false, false, false, false] = G b ∧ h = H36 u v ts) .normal (fun s h => s.get [] = G lot ∧ s.get [false] = G n ∧ s.get [true] = G c ∧ s.get [true, true] = .ptr 0 0 2 ∧ s.get [false, true, false] = .ptr 1 0 1369 ∧ s.get [true, true, false] = .ptr 2 0 2 ∧ s.get [false, false, true] = G a ∧ s.get [true, false, true] = G b ∧ s.get [false, true, true] = G (lft lot b n 0) ∧ s.get [true, true, true, true] = G (lot + 1) ∧ s.get [false, false, false, false, false] = G b ∧ h = H36 u v ts) := Tr.region fun s h hp => by
    obtain ⟨g0, g1, g2, g3, g4, g5, g6, g7, g8, rfl⟩ := hp
    simp (disch := first | omega | exact getEq rfl | exact getO0 | exact Nat.le_of_ble_eq_true rfl) [c36_o7, c36_o8, came_some, goI, List.getElem?_cons_zero, List.getElem?_cons_succ, kn, keep, frameOf, Heap.size, Heap.get, Eff.app, Heap.setOwn, putAt, AV.cells, fillA, loadA, takeA, mk, Eff.isAll, Eff.isNone, Eff.commutes, Eff.spares, okPair, apart, eqAgg, fits, LK.fits, allEq, aveq, eqk, mmA, beqT, wrapI, idxI, tdivI, tmodI, decT, decF, ibT, ibF, inT, inF, evScope_c, if_pos, if_neg, g0, g1, g2, g3, g4, g5, g6, g7, g8, lft]
  have tc : Tr tbl J (c36_o9) (fun s h => s.get [] = G lot ∧ s.get [false] = G n ∧ s.get [true] = G c ∧ s.get [true, true] = .ptr 0 0 2 ∧ s.get [false, true, false] = .ptr 1 0 1369 ∧ s.get [true, true, false] = .ptr 2 0 2 ∧ s.get [false, false, true] = G a ∧ s.get [true, false, true] = G b ∧ s.get [false, true, true] = G (lft lot b n 0) ∧ s.get [true, true, true, true] = G (lot + 1) ∧ s.get [false, false, false, false, false] = G b ∧ h = H36 u v ts) .normal (fun s h => s.get [] = G lot ∧ s.get [false] = G n ∧ s.get [true] = G c ∧ s.get [true, true] = .ptr 0 0 2 ∧ s.get [false, true, false] = .ptr 1 0 1369 ∧ s.get [true, true, false] = .ptr 2 0 2 ∧ s.get [false, false, true] = G a ∧ s.get [true, false, true] = G b ∧ s.get [false, true, true] = G (lft lot b n 0) ∧ s.get [true, true, true, true] = G (lot + 1) ∧ s.get [false, false, false, false, false] = G b ∧ s.get [false, true, true, false, false] = G M ∧ s.get [true, true, true, false, false] = G ((0 : Nat) : Int) ∧ h = H36 u v ts) := Tr.region fun s h hp => by
    obtain ⟨g0, g1, g2, g3, g4, g5, g6, g7, g8, g9, g10, rfl⟩ := hp
    by_cases hx : (b : Int) < c
    · (rw [if_pos hx] at hM; simp (disch := first | omega | exact getEq rfl | exact getO0 | exact Nat.le_of_ble_eq_true rfl) [c36_o9, came_some, goI, List.getElem?_cons_zero, List.getElem?_cons_succ, kn, keep, frameOf, Heap.size, Heap.get, Eff.app, Heap.setOwn, putAt, AV.cells, fillA, loadA, takeA, mk, Eff.isAll, Eff.isNone, Eff.commutes, Eff.spares, okPair, apart, eqAgg, fits, LK.fits, allEq, aveq, eqk, mmA, beqT, wrapI, idxI, tdivI, tmodI, decT, decF, ibT, ibF, inT, inF, evScope_c, if_pos, if_neg, g0, g1, g2, g3, g4, g5, g6, g7, g8, g9, g10]; omega)
    · (rw [if_neg hx] at hM; simp (disch := first | omega | exact getEq rfl | exact getO0 | exact Nat.le_of_ble_eq_true rfl) [c36_o9, came_some, goI, List.getElem?_cons_zero, List.getElem?_cons_succ, kn, keep, frameOf, Heap.size, Heap.get, Eff.app, Heap.setOwn, putAt, AV.cells, fillA, loadA, takeA, mk, Eff.isAll, Eff.isNone, Eff.commutes, Eff.spares, okPair, apart, eqAgg, fits, LK.fits, allEq, aveq, eqk, mmA, beqT, wrapI, idxI, tdivI, tmodI, decT, decF, ibT, ibF, inT, inF, evScope_c, if_pos, if_neg, g0, g1, g2, g3, g4, g5, g6, g7, g8, g9, g10]; omega)
  have ti := left_in J K h0 h1 h2 b hb (c := c) a u v ts M hM2
  rw [hM1] at ti
  generalize lft lot b n (c.toNat + 1) = z at *
  have t2 : ∀ X : AObj, (ts ++ [X])[b]? = some X := fun X => by rw [List.getElem?_append_right (by omega), l1, Nat.sub_self]; rfl
  have t3 : ∀ X Y : AObj, (ts ++ [X]).set b Y = ts ++ [Y] := fun X Y => by rw [List.set_append_right _ _ (by omega), l1, Nat.sub_self]; rfl
  have td : Tr tbl J ((.seq c36_o14 (.seq c36_o15 (.cond (.s [true, true, true, false, false, false]) c36_o16 .skip)))) (fun s h => s.get [] = G lot ∧ s.get [false] = G n ∧ s.get [true] = G c ∧ s.get [true, true] = .ptr 0 0 2 ∧ s.get [false, true, false] = .ptr 1 0 1369 ∧ s.get [true, true, false] = .ptr 2 0 2 ∧ s.get [false, false, true] = G a ∧ s.get [true, false, true] = G b ∧ s.get [false, true, true] = G z ∧ s.get [true, true, true, true] = G (lot + 1) ∧ s.get [false, false, false, false, false] = G b ∧ h = H36 u v ts) .normal (fun s h => s.get [] = G lot ∧ s.get [false] = G n ∧ s.get [true] = G c ∧ s.get [true, true] = .ptr 0 0 2 ∧ s.get [false, true, false] = .ptr 1 0 1369 ∧ s.get [true, true, false] = .ptr 2 0 2 ∧ s.get [false, false, true] = G (if u * q < p * v then (⟨p, q, b⟩ : Best) else ⟨u, v, a⟩).a ∧ s.get [true, true, true, true] = G (lot + 1) ∧ s.get [false, false, false, false, false] = G b ∧ h = H36 (if u * q < p * v then (⟨p, q, b⟩ : Best) else ⟨u, v, a⟩).u (if u * q < p * v then (⟨p, q, b⟩ : Best) else ⟨u, v, a⟩).v (ts ++ [.cells 0 2 [G p, G q]])) := Tr.region fun s h hp => by
    obtain ⟨g0, g1, g2, g3, g4, g5, g6, g7, g8, g9, g10, rfl⟩ := hp
    by_cases hx : u * q < p * v
    · (have hs : sg (p * v - u * q) = 1 := sg_pos (by omega); simp (disch := first | omega | exact getEq rfl | exact getO0 | exact Nat.le_of_ble_eq_true rfl) [c36_o14, c36_o15, c36_o16, H36, came_some, goI, List.getElem?_cons_zero, List.getElem?_cons_succ, kn, keep, frameOf, Heap.size, Heap.get, Eff.app, Heap.setOwn, putAt, AV.cells, fillA, loadA, takeA, mk, Eff.isAll, Eff.isNone, Eff.commutes, Eff.spares, okPair, apart, eqAgg, fits, LK.fits, allEq, aveq, eqk, mmA, beqT, wrapI, idxI, tdivI, tmodI, decT, decF, ibT, ibF, inT, inF, evScope_c, if_pos, if_neg, g0, g1, g2, g3, g4, g5, g6, g7, g8, g9, g10, K.k58, K.k56, K.k55, e1, l1, t2, t3, hx])
    · (have hs := sg_le (show p * v - u * q ≤ 0 by omega); simp (disch := first | omega | exact getEq rfl | exact getO0 | exact Nat.le_of_ble_eq_true rfl) [c36_o14, c36_o15, c36_o16, H36, came_some, goI, List.getElem?_cons_zero, List.getElem?_cons_succ, kn, keep, frameOf, Heap.size, Heap.get, Eff.app, Heap.setOwn, putAt, AV.cells, fillA, loadA, takeA, mk, Eff.isAll, Eff.isNone, Eff.commutes, Eff.spares, okPair, apart, eqAgg, fits, LK.fits, allEq, aveq, eqk, mmA, beqT, wrapI, idxI, tdivI, tmodI, decT, decF, ibT, ibF, inT, inF, evScope_c, if_pos, if_neg, g0, g1, g2, g3, g4, g5, g6, g7, g8, g9, g10, K.k58, K.k56, K.k55, e1, l1, t2, t3, hx])
  have te : Tr tbl J (c36_o17) (fun s h => s.get [] = G lot ∧ s.get [false] = G n ∧ s.get [true] = G c ∧ s.get [true, true] = .ptr 0 0 2 ∧ s.get [false, true, false] = .ptr 1 0 1369 ∧ s.get [true, true, false] = .ptr 2 0 2 ∧ s.get [false, false, true] = G (if u * q < p * v then (⟨p, q, b⟩ : Best) else ⟨u, v, a⟩).a ∧ s.get [true, true, true, true] = G (lot + 1) ∧ s.get [false, false, false, false, false] = G b ∧ h = H36 (if u * q < p * v then (⟨p, q, b⟩ : Best) else ⟨u, v, a⟩).u (if u * q < p * v then (⟨p, q, b⟩ : Best) else ⟨u, v, a⟩).v (ts ++ [.cells 0 2 [G p, G q]])) .normal (fun s h => s.get [] = G lot ∧ s.get [false] = G n ∧ s.get [true] = G c ∧ s.get [true, true] = .ptr 0 0 2 ∧ s.get [false, true, false] = .ptr 1 0 1369 ∧ s.get [true, true, false] = .ptr 2 0 2 ∧ s.get [false, false, true] = G (if u * q < p * v then (⟨p, q, b⟩ : Best) else ⟨u, v, a⟩).a ∧ s.get [true, true, true, true] = G (lot + 1) ∧ s.get [false, false, false, false, false] = G ((b + 1 : Nat) : Int) ∧ h = H36 (if u * q < p * v then (⟨p, q, b⟩ : Best) else ⟨u, v, a⟩).u (if u * q < p * v then (⟨p, q, b⟩ : Best) else ⟨u, v, a⟩).v (ts ++ [.cells 0 2 [G p, G q]])) := Tr.region fun s h hp => by
    obtain ⟨g0, g1, g2, g3, g4, g5, g6, g7, g8, rfl⟩ := hp
    simp (disch := first | omega | exact getEq rfl | exact getO0 | exact Nat.le_of_ble_eq_true rfl) [c36_o17, came_some, goI, List.getElem?_cons_zero, List.getElem?_cons_succ, kn, keep, frameOf, Heap.size, Heap.get, Eff.app, Heap.setOwn, putAt, AV.cells, fillA, loadA, takeA, mk, Eff.isAll, Eff.isNone, Eff.commutes, Eff.spares, okPair, apart, eqAgg, fits, LK.fits, allEq, aveq, eqk, mmA, beqT, wrapI, idxI, tdivI, tmodI, decT, decF, ibT, ibF, inT, inF, evScope_c, if_pos, if_neg, g0, g1, g2, g3, g4, g5, g6, g7, g8]
  exact Tr.trim_assoc (Tr.trim_seq ta (Tr.seq (Tr.block_out (Tr.app2 tb (Tr.seq (Tr.seq tc (Tr.block ti)) td)) (by simp)) te))

abbrev leftB (lot n c : Int) : Best := bst (lU lot n c) (lV lot n c) (lot.toNat + 1)

theorem c36_good (J : CallF) (K : Kn J) (hJ : ∀ a h, J 36 a h = none) (h0 : 1 ≤ n) (h1 : n ≤ lot) (h2 : lot ≤ 36) (h4 : 0 ≤ c ∧ c < n) : CallsTo tbl J 36 [G lot, G n, G c] e0 (.tup [.agg [G (leftB lot n c).u, G (leftB lot n c).v], G (leftB lot n c).a, G 0], [], false) := by
  have hl0 : lotOk lot 0 := ⟨⟨by omega, h2⟩, by omega, by omega⟩
  have hp : planOk lot n c := ⟨⟨h0, h1⟩, h4.1, by omega⟩
  refine Tr.fnv (cf := c36) (e := .ret) (s := T.set (T.set (T.set .leaf [] (G lot)) [false] (G n)) [true] (G c)) (by decide) rfl (hJ _ _) rfl rfl rfl (by simp) ?_
  have t0 : Tr tbl J (c36_o0) (fun s h => s = T.set (T.set (T.set .leaf [] (G lot)) [false] (G n)) [true] (G c) ∧ h = ⟨e0.get, 0, []⟩) .normal (fun s h => s.get [] = G lot ∧ s.get [false] = G n ∧ s.get [true] = G c ∧ s.get [true, true] = .ptr 0 0 2 ∧ h = ⟨e0.get, 0, [.cells 0 2 [G 0, G 0]]⟩) := Tr.region fun s h hp => by
    obtain ⟨rfl, rfl⟩ := hp
    simp (disch := first | omega | exact getEq rfl | exact getO0 | exact Nat.le_of_ble_eq_true rfl) [c36_o0, came_some, goI, List.getElem?_cons_zero, List.getElem?_cons_succ, kn, keep, frameOf, Heap.size, Heap.get, Eff.app, Heap.setOwn, putAt, AV.cells, fillA, loadA, takeA, mk, Eff.isAll, Eff.isNone, Eff.commutes, Eff.spares, okPair, apart, eqAgg, fits, LK.fits, allEq, aveq, eqk, mmA, beqT, wrapI, idxI, tdivI, tmodI, decT, decF, ibT, ibF, inT, inF, evScope_c, if_pos, if_neg]
  have t1 : Tr tbl J ((.seq c36_o1 (.cond (.s [false, true, false, true]) (.seq c36_o2 .ret) .skip))) (fun s h => s.get [] = G lot ∧ s.get [false] = G n ∧ s.get [true] = G c ∧ s.get [true, true] = .ptr 0 0 2 ∧ h = ⟨e0.get, 0, [.cells 0 2 [G 0, G 0]]⟩) .normal (fun s h => s.get [] = G lot ∧ s.get [false] = G n ∧ s.get [true] = G c ∧ s.get [true, true] = .ptr 0 0 2 ∧ h = ⟨e0.get, 0, [.cells 0 2 [G 0, G 0]]⟩) := Tr.region fun s h hp => by
    obtain ⟨g0, g1, g2, g3, rfl⟩ := hp
    simp (disch := first | omega | exact getEq rfl | exact getO0 | exact Nat.le_of_ble_eq_true rfl) [c36_o1, came_some, goI, List.getElem?_cons_zero, List.getElem?_cons_succ, kn, keep, frameOf, Heap.size, Heap.get, Eff.app, Heap.setOwn, putAt, AV.cells, fillA, loadA, takeA, mk, Eff.isAll, Eff.isNone, Eff.commutes, Eff.spares, okPair, apart, eqAgg, fits, LK.fits, allEq, aveq, eqk, mmA, beqT, wrapI, idxI, tdivI, tmodI, decT, decF, ibT, ibF, inT, inF, evScope_c, if_pos, if_neg, g0, g1, g2, g3, K.k52, K.k60, hl0, hp]
  have t2 : Tr tbl J ((.seq c36_o3 c36_o4)) (fun s h => s.get [] = G lot ∧ s.get [false] = G n ∧ s.get [true] = G c ∧ s.get [true, true] = .ptr 0 0 2 ∧ h = ⟨e0.get, 0, [.cells 0 2 [G 0, G 0]]⟩) .normal (fun s h => s.get [] = G lot ∧ s.get [false] = G n ∧ s.get [true] = G c ∧ s.get [true, true] = .ptr 0 0 2 ∧ s.get [false, true, false] = .ptr 1 0 1369 ∧ s.get [true, true, false] = .ptr 2 0 2 ∧ s.get [false, false, true] = G 0 ∧ h = H36 0 1 []) := Tr.region fun s h hp => by
    obtain ⟨g0, g1, g2, g3, rfl⟩ := hp
    simp (disch := first | omega | exact getEq rfl | exact getO0 | exact Nat.le_of_ble_eq_true rfl) [c36_o3, c36_o4, H36, came_some, goI, List.getElem?_cons_zero, List.getElem?_cons_succ, kn, keep, frameOf, Heap.size, Heap.get, Eff.app, Heap.setOwn, putAt, AV.cells, fillA, loadA, takeA, mk, Eff.isAll, Eff.isNone, Eff.commutes, Eff.spares, okPair, apart, eqAgg, fits, LK.fits, allEq, aveq, eqk, mmA, beqT, wrapI, idxI, tdivI, tmodI, decT, decF, ibT, ibF, inT, inF, evScope_c, if_pos, if_neg, g0, g1, g2, g3, K.k54]
  have t3 : Tr tbl J (c36_o5) (fun s h => s.get [] = G lot ∧ s.get [false] = G n ∧ s.get [true] = G c ∧ s.get [true, true] = .ptr 0 0 2 ∧ s.get [false, true, false] = .ptr 1 0 1369 ∧ s.get [true, true, false] = .ptr 2 0 2 ∧ s.get [false, false, true] = G 0 ∧ h = H36 0 1 []) .normal (fun s h => s.get [] = G lot ∧ s.get [false] = G n ∧ s.get [true] = G c ∧ s.get [true, true] = .ptr 0 0 2 ∧ s.get [false, true, false] = .ptr 1 0 1369 ∧ s.get [true, true, false] = .ptr 2 0 2 ∧ s.get [false, false, true] = G ((0 : Nat) : Int) ∧ s.get [true, true, true, true] = G (lot + 1) ∧ s.get [false, false, false, false, false] = G ((0 : Nat) : Int) ∧ h = H36 0 1 []) := Tr.region fun s h hp => by
    obtain ⟨g0, g1, g2, g3, g4, g5, g6, rfl⟩ := hp
    simp (disch := first | omega | exact getEq rfl | exact getO0 | exact Nat.le_of_ble_eq_true rfl) [c36_o5, came_some, goI, List.getElem?_cons_zero, List.getElem?_cons_succ, kn, keep, frameOf, Heap.size, Heap.get, Eff.app, Heap.setOwn, putAt, AV.cells, fillA, loadA, takeA, mk, Eff.isAll, Eff.isNone, Eff.commutes, Eff.spares, okPair, apart, eqAgg, fits, LK.fits, allEq, aveq, eqk, mmA, beqT, wrapI, idxI, tdivI, tmodI, decT, decF, ibT, ibF, inT, inF, evScope_c, if_pos, if_neg, g0, g1, g2, g3, g4, g5, g6]
  generalize hB : leftB lot n c = B
  have t4 : Tr tbl J ((.trim L36o c36_b1)) (fun s h => s.get [] = G lot ∧ s.get [false] = G n ∧ s.get [true] = G c ∧ s.get [true, true] = .ptr 0 0 2 ∧ s.get [false, true, false] = .ptr 1 0 1369 ∧ s.get [true, true, false] = .ptr 2 0 2 ∧ s.get [false, false, true] = G B.a ∧ s.get [true, true, true, true] = G (lot + 1) ∧ s.get [false, false, false, false, false] = G ((lot.toNat + 1 : Nat) : Int) ∧ h = H36 B.u B.v (lts (lU lot n c) (lV lot n c) (lot.toNat + 1))) (.exit 0) (fun s h => s.get [true, true] = .ptr 0 0 2 ∧ s.get [true, true, false] = .ptr 2 0 2 ∧ s.get [false, false, true] = G B.a ∧ h = H36 B.u B.v (lts (lU lot n c) (lV lot n c) (lot.toNat + 1))) := Tr.region fun s h hp => by
    obtain ⟨g0, g1, g2, g3, g4, g5, g6, g7, g8, rfl⟩ := hp
    simp (disch := first | omega | exact getEq rfl | exact getO0 | exact Nat.le_of_ble_eq_true rfl) [c36_b1, c36_o6, came_some, goI, List.getElem?_cons_zero, List.getElem?_cons_succ, kn, keep, frameOf, Heap.size, Heap.get, Eff.app, Heap.setOwn, putAt, AV.cells, fillA, loadA, takeA, mk, Eff.isAll, Eff.isNone, Eff.commutes, Eff.spares, okPair, apart, eqAgg, fits, LK.fits, allEq, aveq, eqk, mmA, beqT, wrapI, idxI, tdivI, tmodI, decT, decF, ibT, ibF, inT, inF, evScope_c, if_pos, if_neg, g0, g1, g2, g3, g4, g5, g6, g7, g8]
  have tl := Tr.rounds (P := P36 lot n c) (M := lot.toNat + 1) (fun m hm => left_step J K h0 h1 h2 h4 m (by omega)) (by unfold P36; rw [show bst (lU lot n c) (lV lot n c) (lot.toNat + 1) = B from hB]; exact t4) (by simp) 0 (by omega)
  generalize lts (lU lot n c) (lV lot n c) (lot.toNat + 1) = ts at *
  have t5 : Tr tbl J ((.seq c36_o18 .ret)) (fun s h => s.get [true, true] = .ptr 0 0 2 ∧ s.get [true, true, false] = .ptr 2 0 2 ∧ s.get [false, false, true] = G B.a ∧ h = H36 B.u B.v ts) .ret (fun s h => s.get [true, true] = .ptr 0 0 2 ∧ s.get [false, false, false] = G B.a ∧ s.get [true, false, false] = G 0 ∧ h = ⟨e0.get, 0, .cells 0 2 [G B.u, G B.v] :: .cells 0 1369 (tri 37 0) :: .cells 0 2 [G B.u, G B.v] :: ts⟩) := Tr.region fun s h hp => by
    obtain ⟨g0, g1, g2, rfl⟩ := hp
    simp (disch := first | omega | exact getEq rfl | exact getO0 | exact Nat.le_of_ble_eq_true rfl) [c36_o18, H36, came_some, goI, List.getElem?_cons_zero, List.getElem?_cons_succ, kn, keep, frameOf, Heap.size, Heap.get, Eff.app, Heap.setOwn, putAt, AV.cells, fillA, loadA, takeA, mk, Eff.isAll, Eff.isNone, Eff.commutes, Eff.spares, okPair, apart, eqAgg, fits, LK.fits, allEq, aveq, eqk, mmA, beqT, wrapI, idxI, tdivI, tmodI, decT, decF, ibT, ibF, inT, inF, evScope_c, if_pos, if_neg, g0, g1, g2]
  refine Tr.post (fun s h q => ?_) (Tr.seq t0 (Tr.seq t1 (Tr.app2 t2 (Tr.seq (Tr.seq t3 (Tr.block tl)) t5))))
  obtain ⟨q1, q2, q3, rfl⟩ := q
  simp [c36, q1, q2, q3, loadA, Heap.get, takeA]

theorem c36_bad (J : CallF) (K : Kn J) (hJ : ∀ a h, J 36 a h = none) (hlt : lot < 9223372036854775808) (hp : ¬ (lotOk lot 0 ∧ planOk lot n c)) : CallsTo tbl J 36 [G lot, G n, G c] e0 (.tup [.agg [G 0, G 0], G 0, G 2], [], false) := by
  refine Tr.fnv (cf := c36) (e := .ret) (s := T.set (T.set (T.set .leaf [] (G lot)) [false] (G n)) [true] (G c)) (by decide) rfl (hJ _ _) rfl rfl rfl (by simp) ?_
  have t0 : Tr tbl J (c36_o0) (fun s h => s = T.set (T.set (T.set .leaf [] (G lot)) [false] (G n)) [true] (G c) ∧ h = ⟨e0.get, 0, []⟩) .normal (fun s h => s.get [] = G lot ∧ s.get [false] = G n ∧ s.get [true] = G c ∧ s.get [true, true] = .ptr 0 0 2 ∧ h = ⟨e0.get, 0, [.cells 0 2 [G 0, G 0]]⟩) := Tr.region fun s h hp => by
    obtain ⟨rfl, rfl⟩ := hp
    simp (disch := first | omega | exact getEq rfl | exact getO0 | exact Nat.le_of_ble_eq_true rfl) [c36_o0, came_some, goI, List.getElem?_cons_zero, List.getElem?_cons_succ, kn, keep, frameOf, Heap.size, Heap.get, Eff.app, Heap.setOwn, putAt, AV.cells, fillA, loadA, takeA, mk, Eff.isAll, Eff.isNone, Eff.commutes, Eff.spares, okPair, apart, eqAgg, fits, LK.fits, allEq, aveq, eqk, mmA, beqT, wrapI, idxI, tdivI, tmodI, decT, decF, ibT, ibF, inT, inF, evScope_c, if_pos, if_neg]
  have t1 : Tr tbl J ((.seq c36_o1 (.cond (.s [false, true, false, true]) (.seq c36_o2 .ret) .skip))) (fun s h => s.get [] = G lot ∧ s.get [false] = G n ∧ s.get [true] = G c ∧ s.get [true, true] = .ptr 0 0 2 ∧ h = ⟨e0.get, 0, [.cells 0 2 [G 0, G 0]]⟩) .ret (fun s h => s.get [true, true] = .ptr 0 0 2 ∧ s.get [false, false, false] = G 0 ∧ s.get [true, false, false] = G 2 ∧ h = ⟨e0.get, 0, [.cells 0 2 [G 0, G 0]]⟩) := Tr.region fun s h hp => by
    obtain ⟨g0, g1, g2, g3, rfl⟩ := hp
    have hc : ¬ lotOk lot 0 ∨ (lotOk lot 0 ∧ ¬ planOk lot n c) := by by_cases x : lotOk lot 0 <;> simp [x] at hp ⊢; exact hp
    rcases hc with hc | hc <;> simp (disch := first | omega | exact getEq rfl | exact getO0 | exact Nat.le_of_ble_eq_true rfl) [c36_o1, c36_o2, came_some, goI, List.getElem?_cons_zero, List.getElem?_cons_succ, kn, keep, frameOf, Heap.size, Heap.get, Eff.app, Heap.setOwn, putAt, AV.cells, fillA, loadA, takeA, mk, Eff.isAll, Eff.isNone, Eff.commutes, Eff.spares, okPair, apart, eqAgg, fits, LK.fits, allEq, aveq, eqk, mmA, beqT, wrapI, idxI, tdivI, tmodI, decT, decF, ibT, ibF, inT, inF, evScope_c, if_pos, if_neg, g0, g1, g2, g3, K.k52, K.k60, hc]
  refine Tr.post (fun s h q => ?_) (Tr.seq t0 (Tr.seq_out t1 (by simp)))
  obtain ⟨q1, q2, q3, rfl⟩ := q
  simp [c36, q1, q2, q3, loadA, Heap.get, takeA]
end

def spec36 : SpecV
  | [.int .i64 lot, .int .i64 n, .int .i64 c] =>
    if lotOk lot 0 ∧ planOk lot n c then some (.tup [.agg [G (leftB lot n c).u, G (leftB lot n c).v], G (leftB lot n c).a, G 0])
    else if lot < 9223372036854775808 then some (.tup [.agg [G 0, G 0], G 0, G 2]) else none
  | _ => none
def spec37 : SpecV
  | [.int .i64 lot, .int .i64 bad, .int .i64 n, .int .i64 c] => if (1 ≤ n ∧ n ≤ lot ∧ lot ≤ 36) ∧ (0 ≤ bad ∧ bad ≤ lot) ∧ (0 ≤ c ∧ c < n) then some (G (lft lot bad n (c.toNat + 1))) else none
  | _ => none
noncomputable def I25 : CallF := addV (addV I24 36 spec36) 37 spec37
theorem s25 : Sound Go.Proofs.Try.prog I25 := Sound.addV2 follows ok (Sound.addV follows ok s24 (by decide) (fun args v h => by
  unfold spec36 at h
  split at h
  · split at h
    · rename_i hh
      simp only [Option.some.injEq] at h; subst h
      exact c36_good I24 kn24 (fun _ _ => rfl) hh.2.1.1 hh.2.1.2 hh.1.1.2 ⟨hh.2.2.1, by have := hh.2.2.2; omega⟩
    · rename_i hh
      split at h
      · rename_i hlt
        simp only [Option.some.injEq] at h; subst h; exact c36_bad I24 kn24 (fun _ _ => rfl) hlt hh
      · cases h
  · cases h)) s24 (by decide) (fun args v h => by
  unfold spec37 at h
  split at h
  · split at h
    · rename_i hh
      simp only [Option.some.injEq] at h; subst h; exact c37_ok I24 kn24 (fun _ _ => rfl) hh.1.1 hh.1.2.1 hh.1.2.2 hh.2.1 hh.2.2
    · cases h
  · cases h)
theorem g36 (h : Heap) (lot n c : Int) (h0 : 1 ≤ n) (h1 : n ≤ lot) (h2 : lot ≤ 36) (h3 : 0 ≤ c) (h4 : c < n) : I25 36 [G lot, G n, G c] h = some (.tup [.agg [G (leftB lot n c).u, G (leftB lot n c).v], G (leftB lot n c).a, G 0], [], false) := by
  have hh : lotOk lot 0 ∧ planOk lot n c := by unfold lotOk planOk; omega
  simp [I25, AEv.addV, spec36, hh]
theorem g36n (h : Heap) (lot n c : Int) (hlt : lot < 9223372036854775808) (hp : ¬ (lotOk lot 0 ∧ planOk lot n c)) : I25 36 [G lot, G n, G c] h = some (.tup [.agg [G 0, G 0], G 0, G 2], [], false) := by
  have : spec36 [G lot, G n, G c] = some (.tup [.agg [G 0, G 0], G 0, G 2]) := by simp only [spec36, if_neg hp, if_pos hlt]
  simp [I25, AEv.addV, this]
theorem g37 (h : Heap) (lot bad n c : Int) (h0 : 1 ≤ n) (h1 : n ≤ lot) (h2 : lot ≤ 36) (h3 : 0 ≤ bad) (h4 : bad ≤ lot) (h5 : 0 ≤ c) (h6 : c < n) : I25 37 [G lot, G bad, G n, G c] h = some (G (lft lot bad n (c.toNat + 1)), [], false) := by
  simp [I25, AEv.addV, spec37, h0, h1, h2, h3, h4, h5, h6]
theorem kn25 : Kn I25 := ⟨f67, f68, f59, f52, f60, f54, f58, f57, f56, f25, f18, f20, f30, f29, f31, f24, f22, f28, f23, f55, f27, f55r⟩
theorem kn25' : Kn4 I25 := ⟨⟨⟨⟨kn25, g53, g19⟩, g17, g21⟩, g26⟩, g35, g35n⟩
structure Kn5 (J : CallF) : Prop extends Kn4 J where
  k36 : ∀ (h : Heap) (lot n c : Int) (h0 : 1 ≤ n) (h1 : n ≤ lot) (h2 : lot ≤ 36) (h3 : 0 ≤ c) (h4 : c < n), J 36 [G lot, G n, G c] h = some (.tup [.agg [G (leftB lot n c).u, G (leftB lot n c).v], G (leftB lot n c).a, G 0], [], false)
  k36n : ∀ (h : Heap) (lot n c : Int) (hlt : lot < 9223372036854775808) (hp : ¬ (lotOk lot 0 ∧ planOk lot n c)), J 36 [G lot, G n, G c] h = some (.tup [.agg [G 0, G 0], G 0, G 2], [], false)
  k37 : ∀ (h : Heap) (lot bad n c : Int) (h0 : 1 ≤ n) (h1 : n ≤ lot) (h2 : lot ≤ 36) (h3 : 0 ≤ bad) (h4 : bad ≤ lot) (h5 : 0 ≤ c) (h6 : c < n), J 37 [G lot, G bad, G n, G c] h = some (G (lft lot bad n (c.toNat + 1)), [], false)
theorem kn25'' : Kn5 I25 := ⟨kn25', g36, g36n, g37⟩

end Go.Proofs.Ytlkgpcfhpeilhaa.Ev
