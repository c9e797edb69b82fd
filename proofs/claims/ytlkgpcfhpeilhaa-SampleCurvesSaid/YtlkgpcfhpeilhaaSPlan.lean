/-
  What Plan answers: the first single plan that is enough; what the reference's Share and Enough answer. No condition.
-/
import Derived.Test.YtlkgpcfhpeilhaaSFacts
set_option linter.unusedVariables false
set_option linter.unusedSimpArgs false
namespace Go.Proofs.Ytlkgpcfhpeilhaa.Ev
open Go Go.AEv

attribute [local simp] evFunc initS evOps_c evTrim_c evSkip_c evExit_c evRet_c evSeq_c evCond_c evBlock_c evDraw_c runOps_n runOps_c exec_n exec_g pure1_c act AOpd.ev T.get T.set T.put evBin evUn forceT_eq forceV_eq forceL_eq evRess evRes one keep runFP_n runFP_c app_none AV.flats AV.flat

/-! ### The first one that is enough -/
def fIn (p : Nat → Bool) : Nat → Nat → Option Nat
  | 0, _ => none
  | j + 1, k => if p k then some k else fIn p j (k + 1)
def fOut (p : Nat → Nat → Bool) : Nat → Nat → Option (Nat × Nat)
  | 0, _ => none
  | j + 1, n => match fIn (p n) n 0 with
    | some k => some (n, k)
    | none => fOut p j (n + 1)

theorem fIn_some {p : Nat → Bool} : ∀ {j k r}, fIn p j k = some r → k ≤ r ∧ r < k + j ∧ p r = true ∧ ∀ i, k ≤ i → i < r → p i = false
  | 0, k, r, h => by cases h
  | j + 1, k, r, h => by
    unfold fIn at h
    split at h
    · rename_i hp
      simp only [Option.some.injEq] at h; subst h
      exact ⟨Nat.le_refl _, by omega, hp, fun i h1 h2 => by omega⟩
    · rename_i hp
      obtain ⟨a, b, c, d⟩ := fIn_some h
      refine ⟨by omega, by omega, c, fun i h1 h2 => ?_⟩
      by_cases hi : i = k
      · subst hi; simpa using hp
      · exact d i (by omega) h2
theorem fIn_none {p : Nat → Bool} : ∀ {j k}, fIn p j k = none → ∀ i, k ≤ i → i < k + j → p i = false
  | 0, k, h, i, h1, h2 => by omega
  | j + 1, k, h, i, h1, h2 => by
    unfold fIn at h
    split at h
    · cases h
    · rename_i hp
      by_cases hi : i = k
      · subst hi; simpa using hp
      · exact fIn_none h i (by omega) (by omega)
theorem fOut_some {p : Nat → Nat → Bool} : ∀ {j n r k}, fOut p j n = some (r, k) → n ≤ r ∧ r < n + j ∧ k < r ∧ p r k = true ∧ (∀ i l, n ≤ i → l < i → (i < r ∨ (i = r ∧ l < k)) → p i l = false)
  | 0, n, r, k, h => by cases h
  | j + 1, n, r, k, h => by
    unfold fOut at h
    cases hf : fIn (p n) n 0 with
    | some x =>
      rw [hf] at h
      simp only [Option.some.injEq, Prod.mk.injEq] at h
      obtain ⟨rfl, rfl⟩ := h
      obtain ⟨a, b, c, d⟩ := fIn_some hf
      exact ⟨Nat.le_refl _, by omega, by omega, c, fun i l h1 h2 h3 => by
        obtain rfl : i = n := by omega
        exact d l (by omega) (by omega)⟩
    | none =>
      rw [hf] at h
      obtain ⟨a, b, c, d, e⟩ := fOut_some h
      refine ⟨by omega, by omega, c, d, fun i l h1 h2 h3 => ?_⟩
      by_cases hi : i = n
      · subst hi; exact fIn_none hf l (by omega) (by omega)
      · exact e i l (by omega) h2 h3
theorem fOut_none {p : Nat → Nat → Bool} : ∀ {j n}, fOut p j n = none → ∀ i l, n ≤ i → i < n + j → l < i → p i l = false
  | 0, n, h, i, l, h1, h2, h3 => by omega
  | j + 1, n, h, i, l, h1, h2, h3 => by
    unfold fOut at h
    cases hf : fIn (p n) n 0 with
    | some x => rw [hf] at h; cases h
    | none =>
      rw [hf] at h
      by_cases hi : i = n
      · subst hi; exact fIn_none hf l (by omega) (by omega)
      · exact fOut_none h i l (by omega) (by omega) h3

/-! ### isChance, Share -/
def shOk (a b : Int) : Prop := (1 ≤ b ∧ b ≤ 1000) ∧ (0 ≤ a ∧ a ≤ b) ∧ Nat.gcd a.toNat b.toNat = 1
instance (a b : Int) : Decidable (shOk a b) := by unfold shOk; infer_instance
def spec53 : SpecV
  | [.agg [.int .i64 a, .int .i64 b]] => some (.bool (decide (shOk a b)))
  | _ => none

theorem c53_ok (J : CallF) (K : Kn J) (hJ : ∀ a h, J 53 a h = none) (a b : Int) : CallsTo tbl J 53 [.agg [G a, G b]] e0 (.bool (decide (shOk a b)), [], false) := by
  refine CallsTo.plain (cf := c53) (h' := ⟨e0.get, 0, [.cells 0 2 [G a, G b]]⟩) (by decide) rfl (hJ _ _) rfl rfl ?_
  rw [show frameOf e0 = ⟨e0.get, 0, []⟩ from rfl]
  by_cases h1 : 1 ≤ b ∧ b ≤ 1000
  · by_cases h2 : 0 ≤ a ∧ a ≤ b
    · have : decide (shOk a b) = ((Nat.gcd a.toNat b.toNat : Int) == 1) := by
        simp [shOk, h1, h2]
        rw [Bool.eq_iff_iff]; simp; omega
      rw [this]
      simp (disch := first | omega | exact getEq rfl) [c53, c53_o0, c53_o1, came_some, goI, List.getElem?_cons_zero, List.getElem?_cons_succ, kn, keep, frameOf, Heap.size, Heap.get, Eff.app, Heap.setOwn, putAt, AV.cells, fillA, loadA, takeA, mk, Eff.isAll, Eff.isNone, Eff.commutes, Eff.spares, okPair, apart, eqAgg, fits, LK.fits, allEq, aveq, eqk, mmA, beqT, wrapI, idxI, tdivI, tmodI, decT, decF, ibT, ibF, inT, inF, evScope_c, if_pos, if_neg, K.k67, K.k68, h1, h2]
    · simp (disch := first | omega | exact getEq rfl) [c53, c53_o0, c53_o1, came_some, goI, List.getElem?_cons_zero, List.getElem?_cons_succ, kn, keep, frameOf, Heap.size, Heap.get, Eff.app, Heap.setOwn, putAt, AV.cells, fillA, loadA, takeA, mk, Eff.isAll, Eff.isNone, Eff.commutes, Eff.spares, okPair, apart, eqAgg, fits, LK.fits, allEq, aveq, eqk, mmA, beqT, wrapI, idxI, tdivI, tmodI, decT, decF, ibT, ibF, inT, inF, evScope_c, if_pos, if_neg, K.k67, K.k68, h1, h2, shOk]
  · simp (disch := first | omega | exact getEq rfl) [c53, c53_o0, c53_o1, came_some, goI, List.getElem?_cons_zero, List.getElem?_cons_succ, kn, keep, frameOf, Heap.size, Heap.get, Eff.app, Heap.setOwn, putAt, AV.cells, fillA, loadA, takeA, mk, Eff.isAll, Eff.isNone, Eff.commutes, Eff.spares, okPair, apart, eqAgg, fits, LK.fits, allEq, aveq, eqk, mmA, beqT, wrapI, idxI, tdivI, tmodI, decT, decF, ibT, ibF, inT, inF, evScope_c, if_pos, if_neg, K.k67, K.k68, h1, shOk]

theorem c19_ok (J : CallF) (K : Kn J) (hJ : ∀ a h, J 19 a h = none) (a b : Int) : CallsTo tbl J 19 [.agg [G a, G b]] e0 (.bool (decide (shOk a b)), [], false) := by
  refine CallsTo.plain (cf := c19) (h' := ⟨e0.get, 0, [.cells 0 2 [G a, G b]]⟩) (by decide) rfl (hJ _ _) rfl rfl ?_
  rw [show frameOf e0 = ⟨e0.get, 0, []⟩ from rfl]
  by_cases h1 : 1 ≤ b
  · by_cases h1' : b ≤ 1000
    · by_cases h2 : 0 ≤ a
      · by_cases h2' : a ≤ b
        · have : decide (shOk a b) = ((Nat.gcd a.toNat b.toNat : Int) == 1) := by
            simp [shOk, h1, h2, h1', h2']
            rw [Bool.eq_iff_iff]; simp; omega
          rw [this]
          simp (disch := first | omega | exact getEq rfl) [c19, c19_o0, c19_o1, came_some, goI, List.getElem?_cons_zero, List.getElem?_cons_succ, kn, keep, frameOf, Heap.size, Heap.get, Eff.app, Heap.setOwn, putAt, AV.cells, fillA, loadA, takeA, mk, Eff.isAll, Eff.isNone, Eff.commutes, Eff.spares, okPair, apart, eqAgg, fits, LK.fits, allEq, aveq, eqk, mmA, beqT, wrapI, idxI, tdivI, tmodI, decT, decF, ibT, ibF, inT, inF, evScope_c, if_pos, if_neg, K.k59, h1, h2, h1', h2']
        · simp (disch := first | omega | exact getEq rfl) [c19, c19_o0, c19_o1, came_some, goI, List.getElem?_cons_zero, List.getElem?_cons_succ, kn, keep, frameOf, Heap.size, Heap.get, Eff.app, Heap.setOwn, putAt, AV.cells, fillA, loadA, takeA, mk, Eff.isAll, Eff.isNone, Eff.commutes, Eff.spares, okPair, apart, eqAgg, fits, LK.fits, allEq, aveq, eqk, mmA, beqT, wrapI, idxI, tdivI, tmodI, decT, decF, ibT, ibF, inT, inF, evScope_c, if_pos, if_neg, K.k59, h1, h2, h1', h2', shOk]
      · simp (disch := first | omega | exact getEq rfl) [c19, c19_o0, c19_o1, came_some, goI, List.getElem?_cons_zero, List.getElem?_cons_succ, kn, keep, frameOf, Heap.size, Heap.get, Eff.app, Heap.setOwn, putAt, AV.cells, fillA, loadA, takeA, mk, Eff.isAll, Eff.isNone, Eff.commutes, Eff.spares, okPair, apart, eqAgg, fits, LK.fits, allEq, aveq, eqk, mmA, beqT, wrapI, idxI, tdivI, tmodI, decT, decF, ibT, ibF, inT, inF, evScope_c, if_pos, if_neg, K.k59, h1, h2, h1', shOk]
    · simp (disch := first | omega | exact getEq rfl) [c19, c19_o0, c19_o1, came_some, goI, List.getElem?_cons_zero, List.getElem?_cons_succ, kn, keep, frameOf, Heap.size, Heap.get, Eff.app, Heap.setOwn, putAt, AV.cells, fillA, loadA, takeA, mk, Eff.isAll, Eff.isNone, Eff.commutes, Eff.spares, okPair, apart, eqAgg, fits, LK.fits, allEq, aveq, eqk, mmA, beqT, wrapI, idxI, tdivI, tmodI, decT, decF, ibT, ibF, inT, inF, evScope_c, if_pos, if_neg, K.k59, h1, h1', shOk]
  · simp (disch := first | omega | exact getEq rfl) [c19, c19_o0, c19_o1, came_some, goI, List.getElem?_cons_zero, List.getElem?_cons_succ, kn, keep, frameOf, Heap.size, Heap.get, Eff.app, Heap.setOwn, putAt, AV.cells, fillA, loadA, takeA, mk, Eff.isAll, Eff.isNone, Eff.commutes, Eff.spares, okPair, apart, eqAgg, fits, LK.fits, allEq, aveq, eqk, mmA, beqT, wrapI, idxI, tdivI, tmodI, decT, decF, ibT, ibF, inT, inF, evScope_c, if_pos, if_neg, K.k59, h1, shOk]

noncomputable def I21 : CallF := addV (addV I20 53 spec53) 19 spec53
theorem s21 : Sound Go.Proofs.Try.prog I21 := Sound.addV2 follows ok (Sound.addV follows ok s20 (by decide) (fun args v h => by
  unfold spec53 at h
  split at h
  · simp only [Option.some.injEq] at h; subst h; exact c53_ok I20 kn20 (fun _ _ => rfl) _ _
  · cases h)) s20 (by decide) (fun args v h => by
  unfold spec53 at h
  split at h
  · simp only [Option.some.injEq] at h; subst h; exact c19_ok I20 kn20 (fun _ _ => rfl) _ _
  · cases h)
theorem g53 (h : Heap) (a b : Int) : I21 53 [.agg [G a, G b]] h = some (.bool (decide (shOk a b)), [], false) := by simp [I21, AEv.addV, spec53]
theorem g19 (h : Heap) (a b : Int) : I21 19 [.agg [G a, G b]] h = some (.bool (decide (shOk a b)), [], false) := by simp [I21, AEv.addV, spec53]

theorem kn21 : Kn I21 := ⟨f67, f68, f59, f52, f60, f54, f58, f57, f56, f25, f18, f20, f30, f29, f31, f24, f22, f28, f23, f55, f27, f55r⟩
structure Kn1 (J : CallF) : Prop extends Kn J where
  k53 : ∀ (h : Heap) (a b : Int), J 53 [.agg [G a, G b]] h = some (.bool (decide (shOk a b)), [], false)
  k19 : ∀ (h : Heap) (a b : Int), J 19 [.agg [G a, G b]] h = some (.bool (decide (shOk a b)), [], false)
theorem kn21' : Kn1 I21 := ⟨kn21, g53, g19⟩

/-! ### Enough -/
def enB (lot good bad a b c d : Int) (n k : Nat) : Bool := decide (a * (ofZ lot good : Int) ≤ (acc lot good n (k + 1) : Int) * b) && decide ((acc lot bad n (k + 1) : Int) * d ≤ c * (ofZ lot bad : Int))

theorem acc_bd {lot bad : Int} {n : Nat} (h1 : (n : Int) ≤ lot) (h2 : lot ≤ 36) (k : Nat) (hk : k ≤ 36) : acc lot bad n (k + 1) ≤ 2542620639232 := by
  have := acc_le lot bad n (by omega) h1 h2 (k + 1)
  have := Nat.mul_le_mul_right 68719476736 (show k + 1 ≤ 37 by omega)
  omega
theorem mul_bd {x y : Int} {X Y : Int} (h1 : 0 ≤ x) (h2 : x ≤ X) (h3 : 0 ≤ y) (h4 : y ≤ Y) : 0 ≤ x * y ∧ x * y ≤ X * Y :=
  ⟨Int.mul_nonneg h1 h3, Int.mul_le_mul h2 h4 h3 (by omega)⟩

theorem c21_ok (J : CallF) (K : Kn J) (hJ : ∀ a h, J 21 a h = none) (lot good bad a b c d : Int) (n k : Nat) (h1 : lot ≤ 36) (h2 : 0 ≤ good ∧ good ≤ lot) (h3 : 0 ≤ bad ∧ bad ≤ lot) (h4 : 0 ≤ a ∧ a ≤ 1000 ∧ 1 ≤ b ∧ b ≤ 1000) (h5 : 0 ≤ c ∧ c ≤ 1000 ∧ 1 ≤ d ∧ d ≤ 1000) (hn : (n : Int) ≤ lot) (hk : k < n) :
    CallsTo tbl J 21 [G lot, G good, G bad, .agg [G a, G b], .agg [G c, G d], G n, G k] e0 (.bool (enB lot good bad a b c d n k), [], false) := by
  refine CallsTo.plain (cf := c21) (h' := ⟨e0.get, 0, [.cells 0 2 [G a, G b], .cells 0 2 [G c, G d]]⟩) (by decide) rfl (hJ _ _) rfl rfl ?_
  rw [show frameOf e0 = ⟨e0.get, 0, []⟩ from rfl]
  have q1 := ofZ_le lot good 36 (by omega)
  have q2 := ofZ_le lot bad 36 (by omega)
  have q3 := acc_bd (bad := good) hn h1 k (by omega)
  have q4 := acc_bd (bad := bad) hn h1 k (by omega)
  have p1 := mul_bd (x := a) (y := ofZ lot good) h4.1 h4.2.1 (by omega) (by omega : _ ≤ (68719476736 : Int))
  have p2 := mul_bd (x := acc lot good n (k + 1)) (y := b) (by omega) (by omega : _ ≤ (2542620639232 : Int)) (by omega) (by omega : _ ≤ (1000 : Int))
  have p3 := mul_bd (x := c) (y := ofZ lot bad) h5.1 h5.2.1 (by omega) (by omega : _ ≤ (68719476736 : Int))
  have p4 := mul_bd (x := acc lot bad n (k + 1)) (y := d) (by omega) (by omega : _ ≤ (2542620639232 : Int)) (by omega) (by omega : _ ≤ (1000 : Int))
  unfold enB
  by_cases hA : a * (ofZ lot good : Int) ≤ (acc lot good n (k + 1) : Int) * b
  · simp (disch := first | omega | exact getEq rfl) [c21, c21_o0, c21_o1, c21_o2, came_some, goI, List.getElem?_cons_zero, List.getElem?_cons_succ, kn, keep, frameOf, Heap.size, Heap.get, Eff.app, Heap.setOwn, putAt, AV.cells, fillA, loadA, takeA, mk, Eff.isAll, Eff.isNone, Eff.commutes, Eff.spares, okPair, apart, eqAgg, fits, LK.fits, allEq, aveq, eqk, mmA, beqT, wrapI, idxI, tdivI, tmodI, decT, decF, ibT, ibF, inT, inF, evScope_c, if_pos, if_neg, K.k31, K.k29, hA]
  · simp (disch := first | omega | exact getEq rfl) [c21, c21_o0, c21_o1, c21_o2, came_some, goI, List.getElem?_cons_zero, List.getElem?_cons_succ, kn, keep, frameOf, Heap.size, Heap.get, Eff.app, Heap.setOwn, putAt, AV.cells, fillA, loadA, takeA, mk, Eff.isAll, Eff.isNone, Eff.commutes, Eff.spares, okPair, apart, eqAgg, fits, LK.fits, allEq, aveq, eqk, mmA, beqT, wrapI, idxI, tdivI, tmodI, decT, decF, ibT, ibF, inT, inF, evScope_c, if_pos, if_neg, K.k31, K.k29, hA]

/-! ### Plan -/
section
variable {lot good bad a b c d : Int}
def HP (a b c d x y : Int) : Heap := ⟨e0.get, 0, [.cells 0 2 [G a, G b], .cells 0 2 [G c, G d], .cells 0 1369 (tri 37 0), .cells 0 2 [G x, G y]]⟩
abbrev L17i : List Path := [[], [false], [true], [true, false, false], [false, true, false], [false, true, true], [true, true, true], [false, false, false, false], [false, false, true, true, false], [true, false, true, true, false]]
abbrev L17o : List Path := [[], [false], [true], [true, false, false], [false, true, false], [false, true, true], [true, true, true], [false, false, false, false]]
abbrev P17 (lot good bad a b c d : Int) (n : Nat) : SP := (fun s h => s.get [] = G lot ∧ s.get [false] = G good ∧ s.get [true] = G bad ∧ s.get [true, false, false] = .ptr 0 0 2 ∧ s.get [false, true, false] = .ptr 1 0 2 ∧ s.get [false, true, true] = .ptr 2 0 1369 ∧ s.get [true, true, true] = .ptr 3 0 2 ∧ s.get [false, false, false, false] = G n ∧ h = HP a b c d 0 0)
abbrev P17i (lot good bad a b c d : Int) (n k : Nat) : SP := (fun s h => s.get [] = G lot ∧ s.get [false] = G good ∧ s.get [true] = G bad ∧ s.get [true, false, false] = .ptr 0 0 2 ∧ s.get [false, true, false] = .ptr 1 0 2 ∧ s.get [false, true, true] = .ptr 2 0 1369 ∧ s.get [true, true, true] = .ptr 3 0 2 ∧ s.get [false, false, false, false] = G n ∧ s.get [false, false, true, true, false] = G n ∧ s.get [true, false, true, true, false] = G k ∧ h = HP a b c d 0 0)
structure Hy17 (lot good bad a b c d : Int) : Prop where
  h1 : 1 ≤ lot ∧ lot ≤ 36
  h2 : 0 ≤ good ∧ good ≤ lot
  h3 : 0 ≤ bad ∧ bad ≤ lot
  h4 : 0 ≤ a ∧ a ≤ 1000 ∧ 1 ≤ b ∧ b ≤ 1000
  h5 : 0 ≤ c ∧ c ≤ 1000 ∧ 1 ≤ d ∧ d ≤ 1000

theorem plan_end (J : CallF) (n : Nat) : Tr tbl J (.trim L17i c17_b0) (P17i lot good bad a b c d n n) (.exit 2) (P17 lot good bad a b c d n) := by
  have t : Tr tbl J ((.trim L17i c17_b0)) (fun s h => s.get [] = G lot ∧ s.get [false] = G good ∧ s.get [true] = G bad ∧ s.get [true, false, false] = .ptr 0 0 2 ∧ s.get [false, true, false] = .ptr 1 0 2 ∧ s.get [false, true, true] = .ptr 2 0 1369 ∧ s.get [true, true, true] = .ptr 3 0 2 ∧ s.get [false, false, false, false] = G n ∧ s.get [false, false, true, true, false] = G n ∧ s.get [true, false, true, true, false] = G n ∧ h = HP a b c d 0 0) (.exit 2) (fun s h => s.get [] = G lot ∧ s.get [false] = G good ∧ s.get [true] = G bad ∧ s.get [true, false, false] = .ptr 0 0 2 ∧ s.get [false, true, false] = .ptr 1 0 2 ∧ s.get [false, true, true] = .ptr 2 0 1369 ∧ s.get [true, true, true] = .ptr 3 0 2 ∧ s.get [false, false, false, false] = G n ∧ h = HP a b c d 0 0) := Tr.region fun s h hp => by
    obtain ⟨g0, g1, g2, g3, g4, g5, g6, g7, g8, g9, rfl⟩ := hp
    simp (disch := first | omega | exact getEq rfl | exact getO0 | exact Nat.le_of_ble_eq_true rfl) [c17_b0, c17_o8, came_some, goI, List.getElem?_cons_zero, List.getElem?_cons_succ, kn, keep, frameOf, Heap.size, Heap.get, Eff.app, Heap.setOwn, putAt, AV.cells, fillA, loadA, takeA, mk, Eff.isAll, Eff.isNone, Eff.commutes, Eff.spares, okPair, apart, eqAgg, fits, LK.fits, allEq, aveq, eqk, mmA, beqT, wrapI, idxI, tdivI, tmodI, decT, decF, ibT, ibF, inT, inF, evScope_c, if_pos, if_neg, g0, g1, g2, g3, g4, g5, g6, g7, g8, g9]
  exact t

theorem plan_t1 (J : CallF) (K : Kn J) (H : Hy17 lot good bad a b c d) (n k : Nat) (hn : (n : Int) ≤ lot) (hk : k < n) (hA : a * (ofZ lot good : Int) ≤ (acc lot good n (k + 1) : Int) * b) (hB : (acc lot bad n (k + 1) : Int) * d ≤ c * (ofZ lot bad : Int)) :
    Tr tbl J c17_o10 (fun s h => s.get [] = G lot ∧ s.get [false] = G good ∧ s.get [true] = G bad ∧ s.get [true, false, false] = .ptr 0 0 2 ∧ s.get [false, true, false] = .ptr 1 0 2 ∧ s.get [false, true, true] = .ptr 2 0 1369 ∧ s.get [true, true, true] = .ptr 3 0 2 ∧ s.get [false, false, false, false] = G n ∧ s.get [true, false, false, false] = G k ∧ s.get [false, false, true, true, false] = G n ∧ s.get [true, false, true, true, false] = G k ∧ h = HP a b c d 0 0) .normal (fun s h => s.get [] = G lot ∧ s.get [false] = G good ∧ s.get [true] = G bad ∧ s.get [true, false, false] = .ptr 0 0 2 ∧ s.get [false, true, false] = .ptr 1 0 2 ∧ s.get [false, true, true] = .ptr 2 0 1369 ∧ s.get [true, true, true] = .ptr 3 0 2 ∧ s.get [false, false, false, false] = G n ∧ s.get [true, false, false, false] = G k ∧ s.get [false, false, true, true, false] = G n ∧ s.get [true, false, true, true, false] = G k ∧ s.get [true, false, true, true, false, false] = .bool true ∧ h = HP a b c d 0 0) := by
  obtain ⟨h1, h2, h3, h4, h5⟩ := H
  have q1 := ofZ_le lot good 36 (by omega)
  have q2 := ofZ_le lot bad 36 (by omega)
  have q5 := ofZ_pos h2.1 h2.2
  have q6 := ofZ_pos h3.1 h3.2
  have q3 := acc_bd (bad := good) hn h1.2 k (by omega)
  have q4 := acc_bd (bad := bad) hn h1.2 k (by omega)
  have hsA := sg_ge (show 0 ≤ (acc lot good n (k + 1) : Int) * b - a * (ofZ lot good : Int) by omega)
  have hsB := sg_le (show (acc lot bad n (k + 1) : Int) * d - c * (ofZ lot bad : Int) ≤ 0 by omega)
  have t : Tr tbl J (c17_o10) (fun s h => s.get [] = G lot ∧ s.get [false] = G good ∧ s.get [true] = G bad ∧ s.get [true, false, false] = .ptr 0 0 2 ∧ s.get [false, true, false] = .ptr 1 0 2 ∧ s.get [false, true, true] = .ptr 2 0 1369 ∧ s.get [true, true, true] = .ptr 3 0 2 ∧ s.get [false, false, false, false] = G n ∧ s.get [true, false, false, false] = G k ∧ s.get [false, false, true, true, false] = G n ∧ s.get [true, false, true, true, false] = G k ∧ h = HP a b c d 0 0) .normal (fun s h => s.get [] = G lot ∧ s.get [false] = G good ∧ s.get [true] = G bad ∧ s.get [true, false, false] = .ptr 0 0 2 ∧ s.get [false, true, false] = .ptr 1 0 2 ∧ s.get [false, true, true] = .ptr 2 0 1369 ∧ s.get [true, true, true] = .ptr 3 0 2 ∧ s.get [false, false, false, false] = G n ∧ s.get [true, false, false, false] = G k ∧ s.get [false, false, true, true, false] = G n ∧ s.get [true, false, true, true, false] = G k ∧ s.get [true, false, true, true, false, false] = .bool true ∧ h = HP a b c d 0 0) := Tr.region fun s h hp => by
    obtain ⟨g0, g1, g2, g3, g4, g5, g6, g7, g8, g9, g10, rfl⟩ := hp
    simp (disch := first | omega | exact getEq rfl | exact getO0 | exact Nat.le_of_ble_eq_true rfl) [c17_o10, HP, came_some, goI, List.getElem?_cons_zero, List.getElem?_cons_succ, kn, keep, frameOf, Heap.size, Heap.get, Eff.app, Heap.setOwn, putAt, AV.cells, fillA, loadA, takeA, mk, Eff.isAll, Eff.isNone, Eff.commutes, Eff.spares, okPair, apart, eqAgg, fits, LK.fits, allEq, aveq, eqk, mmA, beqT, wrapI, idxI, tdivI, tmodI, decT, decF, ibT, ibF, inT, inF, evScope_c, if_pos, if_neg, g0, g1, g2, g3, g4, g5, g6, g7, g8, g9, g10, K.k57, K.k58, K.k56, K.k55r]
  exact t
theorem plan_t2 (J : CallF) (K : Kn J) (H : Hy17 lot good bad a b c d) (n k : Nat) (hn : (n : Int) ≤ lot) (hk : k < n) (hA : a * (ofZ lot good : Int) ≤ (acc lot good n (k + 1) : Int) * b) (hB : ¬ (acc lot bad n (k + 1) : Int) * d ≤ c * (ofZ lot bad : Int)) :
    Tr tbl J c17_o10 (fun s h => s.get [] = G lot ∧ s.get [false] = G good ∧ s.get [true] = G bad ∧ s.get [true, false, false] = .ptr 0 0 2 ∧ s.get [false, true, false] = .ptr 1 0 2 ∧ s.get [false, true, true] = .ptr 2 0 1369 ∧ s.get [true, true, true] = .ptr 3 0 2 ∧ s.get [false, false, false, false] = G n ∧ s.get [true, false, false, false] = G k ∧ s.get [false, false, true, true, false] = G n ∧ s.get [true, false, true, true, false] = G k ∧ h = HP a b c d 0 0) .normal (fun s h => s.get [] = G lot ∧ s.get [false] = G good ∧ s.get [true] = G bad ∧ s.get [true, false, false] = .ptr 0 0 2 ∧ s.get [false, true, false] = .ptr 1 0 2 ∧ s.get [false, true, true] = .ptr 2 0 1369 ∧ s.get [true, true, true] = .ptr 3 0 2 ∧ s.get [false, false, false, false] = G n ∧ s.get [true, false, false, false] = G k ∧ s.get [false, false, true, true, false] = G n ∧ s.get [true, false, true, true, false] = G k ∧ s.get [true, false, true, true, false, false] = .bool false ∧ h = HP a b c d 0 0) := by
  obtain ⟨h1, h2, h3, h4, h5⟩ := H
  have q1 := ofZ_le lot good 36 (by omega)
  have q2 := ofZ_le lot bad 36 (by omega)
  have q5 := ofZ_pos h2.1 h2.2
  have q6 := ofZ_pos h3.1 h3.2
  have q3 := acc_bd (bad := good) hn h1.2 k (by omega)
  have q4 := acc_bd (bad := bad) hn h1.2 k (by omega)
  have hsA := sg_ge (show 0 ≤ (acc lot good n (k + 1) : Int) * b - a * (ofZ lot good : Int) by omega)
  have hsB : sg ((acc lot bad n (k + 1) : Int) * d - c * (ofZ lot bad : Int)) = 1 := sg_pos (by omega)
  have t : Tr tbl J (c17_o10) (fun s h => s.get [] = G lot ∧ s.get [false] = G good ∧ s.get [true] = G bad ∧ s.get [true, false, false] = .ptr 0 0 2 ∧ s.get [false, true, false] = .ptr 1 0 2 ∧ s.get [false, true, true] = .ptr 2 0 1369 ∧ s.get [true, true, true] = .ptr 3 0 2 ∧ s.get [false, false, false, false] = G n ∧ s.get [true, false, false, false] = G k ∧ s.get [false, false, true, true, false] = G n ∧ s.get [true, false, true, true, false] = G k ∧ h = HP a b c d 0 0) .normal (fun s h => s.get [] = G lot ∧ s.get [false] = G good ∧ s.get [true] = G bad ∧ s.get [true, false, false] = .ptr 0 0 2 ∧ s.get [false, true, false] = .ptr 1 0 2 ∧ s.get [false, true, true] = .ptr 2 0 1369 ∧ s.get [true, true, true] = .ptr 3 0 2 ∧ s.get [false, false, false, false] = G n ∧ s.get [true, false, false, false] = G k ∧ s.get [false, false, true, true, false] = G n ∧ s.get [true, false, true, true, false] = G k ∧ s.get [true, false, true, true, false, false] = .bool false ∧ h = HP a b c d 0 0) := Tr.region fun s h hp => by
    obtain ⟨g0, g1, g2, g3, g4, g5, g6, g7, g8, g9, g10, rfl⟩ := hp
    simp (disch := first | omega | exact getEq rfl | exact getO0 | exact Nat.le_of_ble_eq_true rfl) [c17_o10, HP, came_some, goI, List.getElem?_cons_zero, List.getElem?_cons_succ, kn, keep, frameOf, Heap.size, Heap.get, Eff.app, Heap.setOwn, putAt, AV.cells, fillA, loadA, takeA, mk, Eff.isAll, Eff.isNone, Eff.commutes, Eff.spares, okPair, apart, eqAgg, fits, LK.fits, allEq, aveq, eqk, mmA, beqT, wrapI, idxI, tdivI, tmodI, decT, decF, ibT, ibF, inT, inF, evScope_c, if_pos, if_neg, g0, g1, g2, g3, g4, g5, g6, g7, g8, g9, g10, K.k57, K.k58, K.k56, K.k55r]
  exact t
theorem plan_t3 (J : CallF) (K : Kn J) (H : Hy17 lot good bad a b c d) (n k : Nat) (hn : (n : Int) ≤ lot) (hk : k < n) (hA : ¬ a * (ofZ lot good : Int) ≤ (acc lot good n (k + 1) : Int) * b) :
    Tr tbl J c17_o10 (fun s h => s.get [] = G lot ∧ s.get [false] = G good ∧ s.get [true] = G bad ∧ s.get [true, false, false] = .ptr 0 0 2 ∧ s.get [false, true, false] = .ptr 1 0 2 ∧ s.get [false, true, true] = .ptr 2 0 1369 ∧ s.get [true, true, true] = .ptr 3 0 2 ∧ s.get [false, false, false, false] = G n ∧ s.get [true, false, false, false] = G k ∧ s.get [false, false, true, true, false] = G n ∧ s.get [true, false, true, true, false] = G k ∧ h = HP a b c d 0 0) .normal (fun s h => s.get [] = G lot ∧ s.get [false] = G good ∧ s.get [true] = G bad ∧ s.get [true, false, false] = .ptr 0 0 2 ∧ s.get [false, true, false] = .ptr 1 0 2 ∧ s.get [false, true, true] = .ptr 2 0 1369 ∧ s.get [true, true, true] = .ptr 3 0 2 ∧ s.get [false, false, false, false] = G n ∧ s.get [true, false, false, false] = G k ∧ s.get [false, false, true, true, false] = G n ∧ s.get [true, false, true, true, false] = G k ∧ s.get [true, false, true, true, false, false] = .bool false ∧ h = HP a b c d 0 0) := by
  obtain ⟨h1, h2, h3, h4, h5⟩ := H
  have q1 := ofZ_le lot good 36 (by omega)
  have q2 := ofZ_le lot bad 36 (by omega)
  have q5 := ofZ_pos h2.1 h2.2
  have q6 := ofZ_pos h3.1 h3.2
  have q3 := acc_bd (bad := good) hn h1.2 k (by omega)
  have q4 := acc_bd (bad := bad) hn h1.2 k (by omega)
  have hsA : sg ((acc lot good n (k + 1) : Int) * b - a * (ofZ lot good : Int)) = -1 := sg_neg (by omega)
  have t : Tr tbl J (c17_o10) (fun s h => s.get [] = G lot ∧ s.get [false] = G good ∧ s.get [true] = G bad ∧ s.get [true, false, false] = .ptr 0 0 2 ∧ s.get [false, true, false] = .ptr 1 0 2 ∧ s.get [false, true, true] = .ptr 2 0 1369 ∧ s.get [true, true, true] = .ptr 3 0 2 ∧ s.get [false, false, false, false] = G n ∧ s.get [true, false, false, false] = G k ∧ s.get [false, false, true, true, false] = G n ∧ s.get [true, false, true, true, false] = G k ∧ h = HP a b c d 0 0) .normal (fun s h => s.get [] = G lot ∧ s.get [false] = G good ∧ s.get [true] = G bad ∧ s.get [true, false, false] = .ptr 0 0 2 ∧ s.get [false, true, false] = .ptr 1 0 2 ∧ s.get [false, true, true] = .ptr 2 0 1369 ∧ s.get [true, true, true] = .ptr 3 0 2 ∧ s.get [false, false, false, false] = G n ∧ s.get [true, false, false, false] = G k ∧ s.get [false, false, true, true, false] = G n ∧ s.get [true, false, true, true, false] = G k ∧ s.get [true, false, true, true, false, false] = .bool false ∧ h = HP a b c d 0 0) := Tr.region fun s h hp => by
    obtain ⟨g0, g1, g2, g3, g4, g5, g6, g7, g8, g9, g10, rfl⟩ := hp
    simp (disch := first | omega | exact getEq rfl | exact getO0 | exact Nat.le_of_ble_eq_true rfl) [c17_o10, HP, came_some, goI, List.getElem?_cons_zero, List.getElem?_cons_succ, kn, keep, frameOf, Heap.size, Heap.get, Eff.app, Heap.setOwn, putAt, AV.cells, fillA, loadA, takeA, mk, Eff.isAll, Eff.isNone, Eff.commutes, Eff.spares, okPair, apart, eqAgg, fits, LK.fits, allEq, aveq, eqk, mmA, beqT, wrapI, idxI, tdivI, tmodI, decT, decF, ibT, ibF, inT, inF, evScope_c, if_pos, if_neg, g0, g1, g2, g3, g4, g5, g6, g7, g8, g9, g10, K.k57, K.k58, K.k56, K.k55r]
  exact t
theorem plan_t (J : CallF) (K : Kn J) (H : Hy17 lot good bad a b c d) (n k : Nat) (hn : (n : Int) ≤ lot) (hk : k < n) : Tr tbl J c17_o10 (fun s h => s.get [] = G lot ∧ s.get [false] = G good ∧ s.get [true] = G bad ∧ s.get [true, false, false] = .ptr 0 0 2 ∧ s.get [false, true, false] = .ptr 1 0 2 ∧ s.get [false, true, true] = .ptr 2 0 1369 ∧ s.get [true, true, true] = .ptr 3 0 2 ∧ s.get [false, false, false, false] = G n ∧ s.get [true, false, false, false] = G k ∧ s.get [false, false, true, true, false] = G n ∧ s.get [true, false, true, true, false] = G k ∧ h = HP a b c d 0 0) .normal (fun s h => s.get [] = G lot ∧ s.get [false] = G good ∧ s.get [true] = G bad ∧ s.get [true, false, false] = .ptr 0 0 2 ∧ s.get [false, true, false] = .ptr 1 0 2 ∧ s.get [false, true, true] = .ptr 2 0 1369 ∧ s.get [true, true, true] = .ptr 3 0 2 ∧ s.get [false, false, false, false] = G n ∧ s.get [true, false, false, false] = G k ∧ s.get [false, false, true, true, false] = G n ∧ s.get [true, false, true, true, false] = G k ∧ s.get [true, false, true, true, false, false] = .bool (enB lot good bad a b c d n k) ∧ h = HP a b c d 0 0) := by
  unfold enB
  by_cases hA : a * (ofZ lot good : Int) ≤ (acc lot good n (k + 1) : Int) * b
  · by_cases hB : (acc lot bad n (k + 1) : Int) * d ≤ c * (ofZ lot bad : Int)
    · rw [decide_eq_true hA, decide_eq_true hB]; exact plan_t1 J K H n k hn hk hA hB
    · rw [decide_eq_true hA, decide_eq_false hB]; exact plan_t2 J K H n k hn hk hA hB
  · rw [decide_eq_false hA]; exact plan_t3 J K H n k hn hk hA

theorem plan_step (J : CallF) (K : Kn J) (H : Hy17 lot good bad a b c d) (n k : Nat) (hn : (n : Int) ≤ lot) (hk : k < n) : (enB lot good bad a b c d n k = false → Tr tbl J (.trim L17i c17_b0) (P17i lot good bad a b c d n k) .normal (P17i lot good bad a b c d n (k + 1))) ∧
    (enB lot good bad a b c d n k = true → Tr tbl J (.trim L17i c17_b0) (P17i lot good bad a b c d n k) (.exit 0) (fun s h => s.get [true, true, true] = .ptr 3 0 2 ∧ h = HP a b c d n k)) := by
  have ht := plan_t J K H n k hn hk
  have hk36 : k < 36 := by have := H.h1; omega
  have t8 : Tr tbl J ((.trim L17i c17_o8)) (fun s h => s.get [] = G lot ∧ s.get [false] = G good ∧ s.get [true] = G bad ∧ s.get [true, false, false] = .ptr 0 0 2 ∧ s.get [false, true, false] = .ptr 1 0 2 ∧ s.get [false, true, true] = .ptr 2 0 1369 ∧ s.get [true, true, true] = .ptr 3 0 2 ∧ s.get [false, false, false, false] = G n ∧ s.get [false, false, true, true, false] = G n ∧ s.get [true, false, true, true, false] = G k ∧ h = HP a b c d 0 0) .normal (fun s h => s.get [] = G lot ∧ s.get [false] = G good ∧ s.get [true] = G bad ∧ s.get [true, false, false] = .ptr 0 0 2 ∧ s.get [false, true, false] = .ptr 1 0 2 ∧ s.get [false, true, true] = .ptr 2 0 1369 ∧ s.get [true, true, true] = .ptr 3 0 2 ∧ s.get [false, false, false, false] = G n ∧ s.get [false, false, true, true, false] = G n ∧ s.get [true, false, true, true, false] = G k ∧ s.get [false, true, true, true, false] = .bool true ∧ h = HP a b c d 0 0) := Tr.region fun s h hp => by
    obtain ⟨g0, g1, g2, g3, g4, g5, g6, g7, g8, g9, rfl⟩ := hp
    simp (disch := first | omega | exact getEq rfl | exact getO0 | exact Nat.le_of_ble_eq_true rfl) [c17_o8, came_some, goI, List.getElem?_cons_zero, List.getElem?_cons_succ, kn, keep, frameOf, Heap.size, Heap.get, Eff.app, Heap.setOwn, putAt, AV.cells, fillA, loadA, takeA, mk, Eff.isAll, Eff.isNone, Eff.commutes, Eff.spares, okPair, apart, eqAgg, fits, LK.fits, allEq, aveq, eqk, mmA, beqT, wrapI, idxI, tdivI, tmodI, decT, decF, ibT, ibF, inT, inF, evScope_c, if_pos, if_neg, g0, g1, g2, g3, g4, g5, g6, g7, g8, g9]
  have t9 : Tr tbl J (c17_o9) (fun s h => s.get [] = G lot ∧ s.get [false] = G good ∧ s.get [true] = G bad ∧ s.get [true, false, false] = .ptr 0 0 2 ∧ s.get [false, true, false] = .ptr 1 0 2 ∧ s.get [false, true, true] = .ptr 2 0 1369 ∧ s.get [true, true, true] = .ptr 3 0 2 ∧ s.get [false, false, false, false] = G n ∧ s.get [false, false, true, true, false] = G n ∧ s.get [true, false, true, true, false] = G k ∧ s.get [false, true, true, true, false] = .bool true ∧ h = HP a b c d 0 0) .normal (fun s h => s.get [] = G lot ∧ s.get [false] = G good ∧ s.get [true] = G bad ∧ s.get [true, false, false] = .ptr 0 0 2 ∧ s.get [false, true, false] = .ptr 1 0 2 ∧ s.get [false, true, true] = .ptr 2 0 1369 ∧ s.get [true, true, true] = .ptr 3 0 2 ∧ s.get [false, false, false, false] = G n ∧ s.get [true, false, false, false] = G k ∧ s.get [false, false, true, true, false] = G n ∧ s.get [true, false, true, true, false] = G k ∧ h = HP a b c d 0 0) := Tr.region fun s h hp => by
    obtain ⟨g0, g1, g2, g3, g4, g5, g6, g7, g8, g9, g10, rfl⟩ := hp
    simp (disch := first | omega | exact getEq rfl | exact getO0 | exact Nat.le_of_ble_eq_true rfl) [c17_o9, came_some, goI, List.getElem?_cons_zero, List.getElem?_cons_succ, kn, keep, frameOf, Heap.size, Heap.get, Eff.app, Heap.setOwn, putAt, AV.cells, fillA, loadA, takeA, mk, Eff.isAll, Eff.isNone, Eff.commutes, Eff.spares, okPair, apart, eqAgg, fits, LK.fits, allEq, aveq, eqk, mmA, beqT, wrapI, idxI, tdivI, tmodI, decT, decF, ibT, ibF, inT, inF, evScope_c, if_pos, if_neg, g0, g1, g2, g3, g4, g5, g6, g7, g8, g9, g10]
  constructor
  · intro he
    rw [he] at ht
    have t12 : Tr tbl J (c17_o12) (fun s h => s.get [] = G lot ∧ s.get [false] = G good ∧ s.get [true] = G bad ∧ s.get [true, false, false] = .ptr 0 0 2 ∧ s.get [false, true, false] = .ptr 1 0 2 ∧ s.get [false, true, true] = .ptr 2 0 1369 ∧ s.get [true, true, true] = .ptr 3 0 2 ∧ s.get [false, false, false, false] = G n ∧ s.get [false, false, true, true, false] = G n ∧ s.get [true, false, true, true, false] = G k ∧ h = HP a b c d 0 0) .normal (fun s h => s.get [] = G lot ∧ s.get [false] = G good ∧ s.get [true] = G bad ∧ s.get [true, false, false] = .ptr 0 0 2 ∧ s.get [false, true, false] = .ptr 1 0 2 ∧ s.get [false, true, true] = .ptr 2 0 1369 ∧ s.get [true, true, true] = .ptr 3 0 2 ∧ s.get [false, false, false, false] = G n ∧ s.get [false, false, true, true, false] = G n ∧ s.get [true, false, true, true, false] = G ((k + 1 : Nat) : Int) ∧ h = HP a b c d 0 0) := Tr.region fun s h hp => by
      obtain ⟨g0, g1, g2, g3, g4, g5, g6, g7, g8, g9, rfl⟩ := hp
      simp (disch := first | omega | exact getEq rfl | exact getO0 | exact Nat.le_of_ble_eq_true rfl) [c17_o12, came_some, goI, List.getElem?_cons_zero, List.getElem?_cons_succ, kn, keep, frameOf, Heap.size, Heap.get, Eff.app, Heap.setOwn, putAt, AV.cells, fillA, loadA, takeA, mk, Eff.isAll, Eff.isNone, Eff.commutes, Eff.spares, okPair, apart, eqAgg, fits, LK.fits, allEq, aveq, eqk, mmA, beqT, wrapI, idxI, tdivI, tmodI, decT, decF, ibT, ibF, inT, inF, evScope_c, if_pos, if_neg, g0, g1, g2, g3, g4, g5, g6, g7, g8, g9]
    exact Tr.trim_seq t8 (Tr.seq (Tr.cond true (fun s h hp => hp.2.2.2.2.2.2.2.2.2.2.1) Tr.skip) (Tr.seq (Tr.block_out (Tr.seq t9 (Tr.seq ht (Tr.cond false (fun s h hp => hp.2.2.2.2.2.2.2.2.2.2.2.1) (Tr.post (fun s h hp => ⟨hp.1, hp.2.1, hp.2.2.1, hp.2.2.2.1, hp.2.2.2.2.1, hp.2.2.2.2.2.1, hp.2.2.2.2.2.2.1, hp.2.2.2.2.2.2.2.1, hp.2.2.2.2.2.2.2.2.2.1, hp.2.2.2.2.2.2.2.2.2.2.1, hp.2.2.2.2.2.2.2.2.2.2.2.2⟩) Tr.skip)))) (by simp)) t12))
  · intro he
    rw [he] at ht
    have t11 : Tr tbl J (c17_o11) (fun s h => s.get [] = G lot ∧ s.get [false] = G good ∧ s.get [true] = G bad ∧ s.get [true, false, false] = .ptr 0 0 2 ∧ s.get [false, true, false] = .ptr 1 0 2 ∧ s.get [false, true, true] = .ptr 2 0 1369 ∧ s.get [true, true, true] = .ptr 3 0 2 ∧ s.get [false, false, false, false] = G n ∧ s.get [true, false, false, false] = G k ∧ s.get [false, false, true, true, false] = G n ∧ s.get [true, false, true, true, false] = G k ∧ s.get [true, false, true, true, false, false] = .bool true ∧ h = HP a b c d 0 0) .normal (fun s h => s.get [true, true, true] = .ptr 3 0 2 ∧ h = HP a b c d n k) := Tr.region fun s h hp => by
      obtain ⟨g0, g1, g2, g3, g4, g5, g6, g7, g8, g9, g10, g11, rfl⟩ := hp
      simp (disch := first | omega | exact getEq rfl | exact getO0 | exact Nat.le_of_ble_eq_true rfl) [c17_o11, HP, came_some, goI, List.getElem?_cons_zero, List.getElem?_cons_succ, kn, keep, frameOf, Heap.size, Heap.get, Eff.app, Heap.setOwn, putAt, AV.cells, fillA, loadA, takeA, mk, Eff.isAll, Eff.isNone, Eff.commutes, Eff.spares, okPair, apart, eqAgg, fits, LK.fits, allEq, aveq, eqk, mmA, beqT, wrapI, idxI, tdivI, tmodI, decT, decF, ibT, ibF, inT, inF, evScope_c, if_pos, if_neg, g0, g1, g2, g3, g4, g5, g6, g7, g8, g9, g10, g11]
    exact Tr.trim_seq t8 (Tr.seq (Tr.cond true (fun s h hp => hp.2.2.2.2.2.2.2.2.2.2.1) Tr.skip) (Tr.seq_out (Tr.block_out (Tr.seq t9 (Tr.seq ht (Tr.cond true (fun s h hp => hp.2.2.2.2.2.2.2.2.2.2.2.1) (Tr.seq t11 Tr.exit)))) (by simp)) (by simp)))

theorem plan_in (J : CallF) (K : Kn J) (H : Hy17 lot good bad a b c d) (n : Nat) (hn : (n : Int) ≤ lot) : ∀ j k, k + j = n → match fIn (enB lot good bad a b c d n) j k with
    | some k' => Tr tbl J c17_l0 (P17i lot good bad a b c d n k) (.exit 0) (fun s h => s.get [true, true, true] = .ptr 3 0 2 ∧ h = HP a b c d n k')
    | none => Tr tbl J c17_l0 (P17i lot good bad a b c d n k) (.exit 2) (P17 lot good bad a b c d n) := by
  intro j
  induction j with
  | zero =>
    intro k hk
    obtain rfl : k = n := by omega
    exact Tr.out (plan_end J k) (by simp)
  | succ j ih =>
    intro k hk
    have hst := plan_step J K H n k hn (by omega)
    unfold fIn
    by_cases hp : enB lot good bad a b c d n k = true
    · rw [if_pos hp]; exact Tr.out (hst.2 hp) (by simp)
    · rw [if_neg hp]
      have hp' : enB lot good bad a b c d n k = false := by simpa using hp
      have := ih (k + 1) (by omega)
      split at this
      · rename_i k' e; exact Tr.next (hst.1 hp') this
      · rename_i e; exact Tr.next (hst.1 hp') this

theorem plan_out (J : CallF) (K : Kn J) (H : Hy17 lot good bad a b c d) : ∀ j n, n + j = lot.toNat + 1 → 1 ≤ n → Tr tbl J c17_l1 (P17 lot good bad a b c d n) (.exit 0) (match fOut (enB lot good bad a b c d) j n with
    | some (n', k') => (fun s h => s.get [true, true, true] = .ptr 3 0 2 ∧ h = HP a b c d n' k')
    | none => (fun s h => s.get [true, true, true] = .ptr 3 0 2 ∧ h = HP a b c d 0 0)) := by
  intro j
  have h1 := H.h1
  induction j with
  | zero =>
    intro n hn _
    have t : Tr tbl J ((.trim L17o (.seq c17_o6 (.cond (.s [true, false, false, true, false]) .skip (.exit 0))))) (fun s h => s.get [] = G lot ∧ s.get [false] = G good ∧ s.get [true] = G bad ∧ s.get [true, false, false] = .ptr 0 0 2 ∧ s.get [false, true, false] = .ptr 1 0 2 ∧ s.get [false, true, true] = .ptr 2 0 1369 ∧ s.get [true, true, true] = .ptr 3 0 2 ∧ s.get [false, false, false, false] = G n ∧ h = HP a b c d 0 0) (.exit 0) (fun s h => s.get [true, true, true] = .ptr 3 0 2 ∧ h = HP a b c d 0 0) := Tr.region fun s h hp => by
      obtain ⟨g0, g1, g2, g3, g4, g5, g6, g7, rfl⟩ := hp
      simp (disch := first | omega | exact getEq rfl | exact getO0 | exact Nat.le_of_ble_eq_true rfl) [c17_o6, came_some, goI, List.getElem?_cons_zero, List.getElem?_cons_succ, kn, keep, frameOf, Heap.size, Heap.get, Eff.app, Heap.setOwn, putAt, AV.cells, fillA, loadA, takeA, mk, Eff.isAll, Eff.isNone, Eff.commutes, Eff.spares, okPair, apart, eqAgg, fits, LK.fits, allEq, aveq, eqk, mmA, beqT, wrapI, idxI, tdivI, tmodI, decT, decF, ibT, ibF, inT, inF, evScope_c, if_pos, if_neg, g0, g1, g2, g3, g4, g5, g6, g7]
    exact Tr.out (Tr.trim_seq_out t (by simp)) (by simp)
  | succ j ih =>
    intro n hn hn1
    have t : Tr tbl J ((.trim L17o (.seq c17_o6 (.cond (.s [true, false, false, true, false]) .skip (.exit 0))))) (fun s h => s.get [] = G lot ∧ s.get [false] = G good ∧ s.get [true] = G bad ∧ s.get [true, false, false] = .ptr 0 0 2 ∧ s.get [false, true, false] = .ptr 1 0 2 ∧ s.get [false, true, true] = .ptr 2 0 1369 ∧ s.get [true, true, true] = .ptr 3 0 2 ∧ s.get [false, false, false, false] = G n ∧ h = HP a b c d 0 0) .normal (fun s h => s.get [] = G lot ∧ s.get [false] = G good ∧ s.get [true] = G bad ∧ s.get [true, false, false] = .ptr 0 0 2 ∧ s.get [false, true, false] = .ptr 1 0 2 ∧ s.get [false, true, true] = .ptr 2 0 1369 ∧ s.get [true, true, true] = .ptr 3 0 2 ∧ s.get [false, false, false, false] = G n ∧ h = HP a b c d 0 0) := Tr.region fun s h hp => by
      obtain ⟨g0, g1, g2, g3, g4, g5, g6, g7, rfl⟩ := hp
      simp (disch := first | omega | exact getEq rfl | exact getO0 | exact Nat.le_of_ble_eq_true rfl) [c17_o6, came_some, goI, List.getElem?_cons_zero, List.getElem?_cons_succ, kn, keep, frameOf, Heap.size, Heap.get, Eff.app, Heap.setOwn, putAt, AV.cells, fillA, loadA, takeA, mk, Eff.isAll, Eff.isNone, Eff.commutes, Eff.spares, okPair, apart, eqAgg, fits, LK.fits, allEq, aveq, eqk, mmA, beqT, wrapI, idxI, tdivI, tmodI, decT, decF, ibT, ibF, inT, inF, evScope_c, if_pos, if_neg, g0, g1, g2, g3, g4, g5, g6, g7]
    have t1 : Tr tbl J (c17_o7) (fun s h => s.get [] = G lot ∧ s.get [false] = G good ∧ s.get [true] = G bad ∧ s.get [true, false, false] = .ptr 0 0 2 ∧ s.get [false, true, false] = .ptr 1 0 2 ∧ s.get [false, true, true] = .ptr 2 0 1369 ∧ s.get [true, true, true] = .ptr 3 0 2 ∧ s.get [false, false, false, false] = G n ∧ h = HP a b c d 0 0) .normal (fun s h => s.get [] = G lot ∧ s.get [false] = G good ∧ s.get [true] = G bad ∧ s.get [true, false, false] = .ptr 0 0 2 ∧ s.get [false, true, false] = .ptr 1 0 2 ∧ s.get [false, true, true] = .ptr 2 0 1369 ∧ s.get [true, true, true] = .ptr 3 0 2 ∧ s.get [false, false, false, false] = G n ∧ s.get [false, false, true, true, false] = G n ∧ s.get [true, false, true, true, false] = G ((0 : Nat) : Int) ∧ h = HP a b c d 0 0) := Tr.region fun s h hp => by
      obtain ⟨g0, g1, g2, g3, g4, g5, g6, g7, rfl⟩ := hp
      simp (disch := first | omega | exact getEq rfl | exact getO0 | exact Nat.le_of_ble_eq_true rfl) [c17_o7, came_some, goI, List.getElem?_cons_zero, List.getElem?_cons_succ, kn, keep, frameOf, Heap.size, Heap.get, Eff.app, Heap.setOwn, putAt, AV.cells, fillA, loadA, takeA, mk, Eff.isAll, Eff.isNone, Eff.commutes, Eff.spares, okPair, apart, eqAgg, fits, LK.fits, allEq, aveq, eqk, mmA, beqT, wrapI, idxI, tdivI, tmodI, decT, decF, ibT, ibF, inT, inF, evScope_c, if_pos, if_neg, g0, g1, g2, g3, g4, g5, g6, g7]
    have hin := plan_in J K H n (by omega) n 0 (by omega)
    unfold fOut
    split
    · rename_i e
      split at e
      · rename_i k' e'
        simp only [Option.some.injEq, Prod.mk.injEq] at e
        obtain ⟨rfl, rfl⟩ := e
        rw [e'] at hin
        refine Tr.out (Tr.trim_seq t (Tr.seq_out (Tr.block_out (Tr.seq t1 (Tr.block_out hin (by simp))) (by simp)) (by simp))) (by simp)
      · rename_i e'
        rw [e'] at hin
        have t2 : Tr tbl J (c17_o13) (fun s h => s.get [] = G lot ∧ s.get [false] = G good ∧ s.get [true] = G bad ∧ s.get [true, false, false] = .ptr 0 0 2 ∧ s.get [false, true, false] = .ptr 1 0 2 ∧ s.get [false, true, true] = .ptr 2 0 1369 ∧ s.get [true, true, true] = .ptr 3 0 2 ∧ s.get [false, false, false, false] = G n ∧ h = HP a b c d 0 0) .normal (fun s h => s.get [] = G lot ∧ s.get [false] = G good ∧ s.get [true] = G bad ∧ s.get [true, false, false] = .ptr 0 0 2 ∧ s.get [false, true, false] = .ptr 1 0 2 ∧ s.get [false, true, true] = .ptr 2 0 1369 ∧ s.get [true, true, true] = .ptr 3 0 2 ∧ s.get [false, false, false, false] = G ((n + 1 : Nat) : Int) ∧ h = HP a b c d 0 0) := Tr.region fun s h hp => by
          obtain ⟨g0, g1, g2, g3, g4, g5, g6, g7, rfl⟩ := hp
          simp (disch := first | omega | exact getEq rfl | exact getO0 | exact Nat.le_of_ble_eq_true rfl) [c17_o13, came_some, goI, List.getElem?_cons_zero, List.getElem?_cons_succ, kn, keep, frameOf, Heap.size, Heap.get, Eff.app, Heap.setOwn, putAt, AV.cells, fillA, loadA, takeA, mk, Eff.isAll, Eff.isNone, Eff.commutes, Eff.spares, okPair, apart, eqAgg, fits, LK.fits, allEq, aveq, eqk, mmA, beqT, wrapI, idxI, tdivI, tmodI, decT, decF, ibT, ibF, inT, inF, evScope_c, if_pos, if_neg, g0, g1, g2, g3, g4, g5, g6, g7]
        have := ih (n + 1) (by omega) (by omega)
        rw [e] at this
        exact Tr.next (Tr.trim_seq t (Tr.seq (Tr.block_out (Tr.seq t1 (Tr.block hin)) (by simp)) t2)) this
    · rename_i e
      split at e
      · cases e
      · rename_i e'
        rw [e'] at hin
        have t2 : Tr tbl J (c17_o13) (fun s h => s.get [] = G lot ∧ s.get [false] = G good ∧ s.get [true] = G bad ∧ s.get [true, false, false] = .ptr 0 0 2 ∧ s.get [false, true, false] = .ptr 1 0 2 ∧ s.get [false, true, true] = .ptr 2 0 1369 ∧ s.get [true, true, true] = .ptr 3 0 2 ∧ s.get [false, false, false, false] = G n ∧ h = HP a b c d 0 0) .normal (fun s h => s.get [] = G lot ∧ s.get [false] = G good ∧ s.get [true] = G bad ∧ s.get [true, false, false] = .ptr 0 0 2 ∧ s.get [false, true, false] = .ptr 1 0 2 ∧ s.get [false, true, true] = .ptr 2 0 1369 ∧ s.get [true, true, true] = .ptr 3 0 2 ∧ s.get [false, false, false, false] = G ((n + 1 : Nat) : Int) ∧ h = HP a b c d 0 0) := Tr.region fun s h hp => by
          obtain ⟨g0, g1, g2, g3, g4, g5, g6, g7, rfl⟩ := hp
          simp (disch := first | omega | exact getEq rfl | exact getO0 | exact Nat.le_of_ble_eq_true rfl) [c17_o13, came_some, goI, List.getElem?_cons_zero, List.getElem?_cons_succ, kn, keep, frameOf, Heap.size, Heap.get, Eff.app, Heap.setOwn, putAt, AV.cells, fillA, loadA, takeA, mk, Eff.isAll, Eff.isNone, Eff.commutes, Eff.spares, okPair, apart, eqAgg, fits, LK.fits, allEq, aveq, eqk, mmA, beqT, wrapI, idxI, tdivI, tmodI, decT, decF, ibT, ibF, inT, inF, evScope_c, if_pos, if_neg, g0, g1, g2, g3, g4, g5, g6, g7]
        have := ih (n + 1) (by omega) (by omega)
        rw [e] at this
        exact Tr.next (Tr.trim_seq t (Tr.seq (Tr.block_out (Tr.seq t1 (Tr.block hin)) (by simp)) t2)) this

def planOn (lot good bad a b c d : Int) : Prop := lotOk lot good ∧ lotOk lot bad ∧ shOk a b ∧ shOk c d
instance (lot good bad a b c d : Int) : Decidable (planOn lot good bad a b c d) := by unfold planOn; infer_instance
def planN (r : Option (Nat × Nat)) : Int := match r with | some (n, _) => n | none => 0
def planC (r : Option (Nat × Nat)) : Int := match r with | some (_, k) => k | none => 0
def planE (r : Option (Nat × Nat)) : Int := match r with | some _ => 0 | none => 6
abbrev planR (lot good bad a b c d : Int) : Option (Nat × Nat) := fOut (enB lot good bad a b c d) lot.toNat 1
def planV (lot good bad a b c d : Int) : AV := if planOn lot good bad a b c d then .tup [G (planN (planR lot good bad a b c d)), G (planC (planR lot good bad a b c d)), G (planE (planR lot good bad a b c d))] else .tup [G 0, G 0, G 2]

theorem plan_on (J : CallF) (K : Kn1 J) : Tr tbl J c17_o1 (fun s h => s.get [] = G lot ∧ s.get [false] = G good ∧ s.get [true] = G bad ∧ s.get [true, false, false] = .ptr 0 0 2 ∧ s.get [false, true, false] = .ptr 1 0 2 ∧ h = ⟨e0.get, 0, [.cells 0 2 [G a, G b], .cells 0 2 [G c, G d]]⟩) .normal (fun s h => s.get [] = G lot ∧ s.get [false] = G good ∧ s.get [true] = G bad ∧ s.get [true, false, false] = .ptr 0 0 2 ∧ s.get [false, true, false] = .ptr 1 0 2 ∧ s.get [true, false, true, false, false] = .bool (!decide (planOn lot good bad a b c d)) ∧ h = ⟨e0.get, 0, [.cells 0 2 [G a, G b], .cells 0 2 [G c, G d]]⟩) := by
  by_cases v1 : lotOk lot good
  · by_cases v2 : lotOk lot bad
    · by_cases v3 : shOk a b
      · have e : (!decide (planOn lot good bad a b c d)) = !decide (shOk c d) := by simp [planOn, v1, v2, v3]
        rw [e]
        have t : Tr tbl J (c17_o1) (fun s h => s.get [] = G lot ∧ s.get [false] = G good ∧ s.get [true] = G bad ∧ s.get [true, false, false] = .ptr 0 0 2 ∧ s.get [false, true, false] = .ptr 1 0 2 ∧ h = ⟨e0.get, 0, [.cells 0 2 [G a, G b], .cells 0 2 [G c, G d]]⟩) .normal (fun s h => s.get [] = G lot ∧ s.get [false] = G good ∧ s.get [true] = G bad ∧ s.get [true, false, false] = .ptr 0 0 2 ∧ s.get [false, true, false] = .ptr 1 0 2 ∧ s.get [true, false, true, false, false] = .bool (!decide (shOk c d)) ∧ h = ⟨e0.get, 0, [.cells 0 2 [G a, G b], .cells 0 2 [G c, G d]]⟩) := Tr.region fun s h hp => by
          obtain ⟨g0, g1, g2, g3, g4, rfl⟩ := hp
          simp (disch := first | omega | exact getEq rfl | exact getO0 | exact Nat.le_of_ble_eq_true rfl) [c17_o1, came_some, goI, List.getElem?_cons_zero, List.getElem?_cons_succ, kn, keep, frameOf, Heap.size, Heap.get, Eff.app, Heap.setOwn, putAt, AV.cells, fillA, loadA, takeA, mk, Eff.isAll, Eff.isNone, Eff.commutes, Eff.spares, okPair, apart, eqAgg, fits, LK.fits, allEq, aveq, eqk, mmA, beqT, wrapI, idxI, tdivI, tmodI, decT, decF, ibT, ibF, inT, inF, evScope_c, if_pos, if_neg, g0, g1, g2, g3, g4, K.k52, K.k53, v1, v2, v3]
        exact t
      · have e : (!decide (planOn lot good bad a b c d)) = true := by simp [planOn, v1, v2, v3]
        rw [e]
        have t : Tr tbl J (c17_o1) (fun s h => s.get [] = G lot ∧ s.get [false] = G good ∧ s.get [true] = G bad ∧ s.get [true, false, false] = .ptr 0 0 2 ∧ s.get [false, true, false] = .ptr 1 0 2 ∧ h = ⟨e0.get, 0, [.cells 0 2 [G a, G b], .cells 0 2 [G c, G d]]⟩) .normal (fun s h => s.get [] = G lot ∧ s.get [false] = G good ∧ s.get [true] = G bad ∧ s.get [true, false, false] = .ptr 0 0 2 ∧ s.get [false, true, false] = .ptr 1 0 2 ∧ s.get [true, false, true, false, false] = .bool true ∧ h = ⟨e0.get, 0, [.cells 0 2 [G a, G b], .cells 0 2 [G c, G d]]⟩) := Tr.region fun s h hp => by
          obtain ⟨g0, g1, g2, g3, g4, rfl⟩ := hp
          simp (disch := first | omega | exact getEq rfl | exact getO0 | exact Nat.le_of_ble_eq_true rfl) [c17_o1, came_some, goI, List.getElem?_cons_zero, List.getElem?_cons_succ, kn, keep, frameOf, Heap.size, Heap.get, Eff.app, Heap.setOwn, putAt, AV.cells, fillA, loadA, takeA, mk, Eff.isAll, Eff.isNone, Eff.commutes, Eff.spares, okPair, apart, eqAgg, fits, LK.fits, allEq, aveq, eqk, mmA, beqT, wrapI, idxI, tdivI, tmodI, decT, decF, ibT, ibF, inT, inF, evScope_c, if_pos, if_neg, g0, g1, g2, g3, g4, K.k52, K.k53, v1, v2, v3]
        exact t
    · have e : (!decide (planOn lot good bad a b c d)) = true := by simp [planOn, v1, v2]
      rw [e]
      have t : Tr tbl J (c17_o1) (fun s h => s.get [] = G lot ∧ s.get [false] = G good ∧ s.get [true] = G bad ∧ s.get [true, false, false] = .ptr 0 0 2 ∧ s.get [false, true, false] = .ptr 1 0 2 ∧ h = ⟨e0.get, 0, [.cells 0 2 [G a, G b], .cells 0 2 [G c, G d]]⟩) .normal (fun s h => s.get [] = G lot ∧ s.get [false] = G good ∧ s.get [true] = G bad ∧ s.get [true, false, false] = .ptr 0 0 2 ∧ s.get [false, true, false] = .ptr 1 0 2 ∧ s.get [true, false, true, false, false] = .bool true ∧ h = ⟨e0.get, 0, [.cells 0 2 [G a, G b], .cells 0 2 [G c, G d]]⟩) := Tr.region fun s h hp => by
        obtain ⟨g0, g1, g2, g3, g4, rfl⟩ := hp
        simp (disch := first | omega | exact getEq rfl | exact getO0 | exact Nat.le_of_ble_eq_true rfl) [c17_o1, came_some, goI, List.getElem?_cons_zero, List.getElem?_cons_succ, kn, keep, frameOf, Heap.size, Heap.get, Eff.app, Heap.setOwn, putAt, AV.cells, fillA, loadA, takeA, mk, Eff.isAll, Eff.isNone, Eff.commutes, Eff.spares, okPair, apart, eqAgg, fits, LK.fits, allEq, aveq, eqk, mmA, beqT, wrapI, idxI, tdivI, tmodI, decT, decF, ibT, ibF, inT, inF, evScope_c, if_pos, if_neg, g0, g1, g2, g3, g4, K.k52, K.k53, v1, v2]
      exact t
  · have e : (!decide (planOn lot good bad a b c d)) = true := by simp [planOn, v1]
    rw [e]
    have t : Tr tbl J (c17_o1) (fun s h => s.get [] = G lot ∧ s.get [false] = G good ∧ s.get [true] = G bad ∧ s.get [true, false, false] = .ptr 0 0 2 ∧ s.get [false, true, false] = .ptr 1 0 2 ∧ h = ⟨e0.get, 0, [.cells 0 2 [G a, G b], .cells 0 2 [G c, G d]]⟩) .normal (fun s h => s.get [] = G lot ∧ s.get [false] = G good ∧ s.get [true] = G bad ∧ s.get [true, false, false] = .ptr 0 0 2 ∧ s.get [false, true, false] = .ptr 1 0 2 ∧ s.get [true, false, true, false, false] = .bool true ∧ h = ⟨e0.get, 0, [.cells 0 2 [G a, G b], .cells 0 2 [G c, G d]]⟩) := Tr.region fun s h hp => by
      obtain ⟨g0, g1, g2, g3, g4, rfl⟩ := hp
      simp (disch := first | omega | exact getEq rfl | exact getO0 | exact Nat.le_of_ble_eq_true rfl) [c17_o1, came_some, goI, List.getElem?_cons_zero, List.getElem?_cons_succ, kn, keep, frameOf, Heap.size, Heap.get, Eff.app, Heap.setOwn, putAt, AV.cells, fillA, loadA, takeA, mk, Eff.isAll, Eff.isNone, Eff.commutes, Eff.spares, okPair, apart, eqAgg, fits, LK.fits, allEq, aveq, eqk, mmA, beqT, wrapI, idxI, tdivI, tmodI, decT, decF, ibT, ibF, inT, inF, evScope_c, if_pos, if_neg, g0, g1, g2, g3, g4, K.k52, K.k53, v1]
    exact t

theorem hy17 (h : planOn lot good bad a b c d) : Hy17 lot good bad a b c d := by
  obtain ⟨⟨a1, a2, a3⟩, ⟨b1, b2, b3⟩, ⟨c1, c2, c3⟩, d1, d2, d3⟩ := h
  exact ⟨a1, ⟨a2, a3⟩, ⟨b2, b3⟩, ⟨by omega, by omega, by omega, by omega⟩, ⟨by omega, by omega, by omega, by omega⟩⟩

theorem c17_ok (J : CallF) (K : Kn1 J) (hJ : ∀ a h, J 17 a h = none) (lot good bad a b c d : Int) : CallsTo tbl J 17 [G lot, G good, G bad, .agg [G a, G b], .agg [G c, G d]] e0 (planV lot good bad a b c d, [], false) := by
  let s0 : T := T.set (T.set (T.set (T.set (T.set .leaf [] (G lot)) [false] (G good)) [true] (G bad)) [false, false] (.agg [G a, G b])) [true, false] (.agg [G c, G d])
  have t0 : Tr tbl J (c17_o0) (fun s h => s = T.set (T.set (T.set (T.set (T.set .leaf [] (G lot)) [false] (G good)) [true] (G bad)) [false, false] (.agg [G a, G b])) [true, false] (.agg [G c, G d]) ∧ h = ⟨e0.get, 0, []⟩) .normal (fun s h => s.get [] = G lot ∧ s.get [false] = G good ∧ s.get [true] = G bad ∧ s.get [true, false, false] = .ptr 0 0 2 ∧ s.get [false, true, false] = .ptr 1 0 2 ∧ h = ⟨e0.get, 0, [.cells 0 2 [G a, G b], .cells 0 2 [G c, G d]]⟩) := Tr.region fun s h hp => by
    obtain ⟨rfl, rfl⟩ := hp
    simp (disch := first | omega | exact getEq rfl | exact getO0 | exact Nat.le_of_ble_eq_true rfl) [c17_o0, came_some, goI, List.getElem?_cons_zero, List.getElem?_cons_succ, kn, keep, frameOf, Heap.size, Heap.get, Eff.app, Heap.setOwn, putAt, AV.cells, fillA, loadA, takeA, mk, Eff.isAll, Eff.isNone, Eff.commutes, Eff.spares, okPair, apart, eqAgg, fits, LK.fits, allEq, aveq, eqk, mmA, beqT, wrapI, idxI, tdivI, tmodI, decT, decF, ibT, ibF, inT, inF, evScope_c, if_pos, if_neg]
  have t1 := plan_on (lot := lot) (good := good) (bad := bad) (a := a) (b := b) (c := c) (d := d) J K
  have hv : (planV lot good bad a b c d).flat = true := by unfold planV; split <;> rfl
  refine Tr.fnv (cf := c17) (e := .ret) (s := s0) (by decide) rfl (hJ _ _) rfl rfl hv (by simp) ?_
  by_cases on : planOn lot good bad a b c d
  · have H := hy17 on
    have hl := H.h1
    simp only [decide_eq_true on, Bool.not_true] at t1
    have t3 : Tr tbl J ((.seq c17_o3 c17_o4)) (fun s h => s.get [] = G lot ∧ s.get [false] = G good ∧ s.get [true] = G bad ∧ s.get [true, false, false] = .ptr 0 0 2 ∧ s.get [false, true, false] = .ptr 1 0 2 ∧ s.get [true, false, true, false, false] = .bool false ∧ h = ⟨e0.get, 0, [.cells 0 2 [G a, G b], .cells 0 2 [G c, G d]]⟩) .normal (fun s h => s.get [] = G lot ∧ s.get [false] = G good ∧ s.get [true] = G bad ∧ s.get [true, false, false] = .ptr 0 0 2 ∧ s.get [false, true, false] = .ptr 1 0 2 ∧ s.get [false, true, true] = .ptr 2 0 1369 ∧ s.get [true, true, true] = .ptr 3 0 2 ∧ h = HP a b c d 0 0) := Tr.region fun s h hp => by
      obtain ⟨g0, g1, g2, g3, g4, g5, rfl⟩ := hp
      simp (disch := first | omega | exact getEq rfl | exact getO0 | exact Nat.le_of_ble_eq_true rfl) [c17_o3, c17_o4, HP, came_some, goI, List.getElem?_cons_zero, List.getElem?_cons_succ, kn, keep, frameOf, Heap.size, Heap.get, Eff.app, Heap.setOwn, putAt, AV.cells, fillA, loadA, takeA, mk, Eff.isAll, Eff.isNone, Eff.commutes, Eff.spares, okPair, apart, eqAgg, fits, LK.fits, allEq, aveq, eqk, mmA, beqT, wrapI, idxI, tdivI, tmodI, decT, decF, ibT, ibF, inT, inF, evScope_c, if_pos, if_neg, g0, g1, g2, g3, g4, g5, K.k54]
    have t3b : Tr tbl J (c17_o5) (fun s h => s.get [] = G lot ∧ s.get [false] = G good ∧ s.get [true] = G bad ∧ s.get [true, false, false] = .ptr 0 0 2 ∧ s.get [false, true, false] = .ptr 1 0 2 ∧ s.get [false, true, true] = .ptr 2 0 1369 ∧ s.get [true, true, true] = .ptr 3 0 2 ∧ h = HP a b c d 0 0) .normal (fun s h => s.get [] = G lot ∧ s.get [false] = G good ∧ s.get [true] = G bad ∧ s.get [true, false, false] = .ptr 0 0 2 ∧ s.get [false, true, false] = .ptr 1 0 2 ∧ s.get [false, true, true] = .ptr 2 0 1369 ∧ s.get [true, true, true] = .ptr 3 0 2 ∧ s.get [false, false, false, false] = G ((1 : Nat) : Int) ∧ h = HP a b c d 0 0) := Tr.region fun s h hp => by
      obtain ⟨g0, g1, g2, g3, g4, g5, g6, rfl⟩ := hp
      simp (disch := first | omega | exact getEq rfl | exact getO0 | exact Nat.le_of_ble_eq_true rfl) [c17_o5, came_some, goI, List.getElem?_cons_zero, List.getElem?_cons_succ, kn, keep, frameOf, Heap.size, Heap.get, Eff.app, Heap.setOwn, putAt, AV.cells, fillA, loadA, takeA, mk, Eff.isAll, Eff.isNone, Eff.commutes, Eff.spares, okPair, apart, eqAgg, fits, LK.fits, allEq, aveq, eqk, mmA, beqT, wrapI, idxI, tdivI, tmodI, decT, decF, ibT, ibF, inT, inF, evScope_c, if_pos, if_neg, g0, g1, g2, g3, g4, g5, g6]
    have tl := plan_out J K.toKn H lot.toNat 1 (by omega) (by omega)
    unfold planV
    rw [if_pos on]
    refine Tr.seq t0 (Tr.scope (Tr.seq (Tr.seq t1 (Tr.cond false (fun s h hp => hp.2.2.2.2.2.1) Tr.skip)) ?_))
    refine Tr.app2 t3 (Tr.seq Tr.skip (Tr.seq (Tr.seq t3b (Tr.block tl)) ?_))
    generalize hr : fOut (enB lot good bad a b c d) lot.toNat 1 = r at *
    cases r with
    | none =>
      have t4 : Tr tbl J ((.seq (.seq c17_o14 (.cond (.s [false, false, true, false, true, false]) (.seq c17_o15 .ret) .skip)) (.seq c17_o16 .ret))) (fun s h => s.get [true, true, true] = .ptr 3 0 2 ∧ h = HP a b c d 0 0) .ret (fun s h => s.get [true, true, false] = G 0 ∧ s.get [false, false, true] = G 0 ∧ s.get [true, false, true] = G 6) := Tr.region fun s h hp => by
        obtain ⟨g0, rfl⟩ := hp
        simp (disch := first | omega | exact getEq rfl | exact getO0 | exact Nat.le_of_ble_eq_true rfl) [c17_o14, c17_o15, HP, came_some, goI, List.getElem?_cons_zero, List.getElem?_cons_succ, kn, keep, frameOf, Heap.size, Heap.get, Eff.app, Heap.setOwn, putAt, AV.cells, fillA, loadA, takeA, mk, Eff.isAll, Eff.isNone, Eff.commutes, Eff.spares, okPair, apart, eqAgg, fits, LK.fits, allEq, aveq, eqk, mmA, beqT, wrapI, idxI, tdivI, tmodI, decT, decF, ibT, ibF, inT, inF, evScope_c, if_pos, if_neg, g0]
      exact Tr.post (fun s h q => by simp [c17, q, show planR lot good bad a b c d = _ from hr, planN, planC, planE]) t4
    | some x =>
      obtain ⟨n, k⟩ := x
      obtain ⟨r1, r2, r3, _, _⟩ := fOut_some hr
      have t4 : Tr tbl J ((.seq (.seq c17_o14 (.cond (.s [false, false, true, false, true, false]) (.seq c17_o15 .ret) .skip)) (.seq c17_o16 .ret))) (fun s h => s.get [true, true, true] = .ptr 3 0 2 ∧ h = HP a b c d n k) .ret (fun s h => s.get [true, true, false] = G n ∧ s.get [false, false, true] = G k ∧ s.get [true, false, true] = G 0) := Tr.region fun s h hp => by
        obtain ⟨g0, rfl⟩ := hp
        simp (disch := first | omega | exact getEq rfl | exact getO0 | exact Nat.le_of_ble_eq_true rfl) [c17_o14, c17_o16, HP, came_some, goI, List.getElem?_cons_zero, List.getElem?_cons_succ, kn, keep, frameOf, Heap.size, Heap.get, Eff.app, Heap.setOwn, putAt, AV.cells, fillA, loadA, takeA, mk, Eff.isAll, Eff.isNone, Eff.commutes, Eff.spares, okPair, apart, eqAgg, fits, LK.fits, allEq, aveq, eqk, mmA, beqT, wrapI, idxI, tdivI, tmodI, decT, decF, ibT, ibF, inT, inF, evScope_c, if_pos, if_neg, g0]
      exact Tr.post (fun s h q => by simp [c17, q, show planR lot good bad a b c d = _ from hr, planN, planC, planE]) t4
  · simp only [decide_eq_false on, Bool.not_false] at t1
    unfold planV
    rw [if_neg on]
    refine Tr.seq t0 (Tr.scope (Tr.seq_out (Tr.seq t1 (Tr.cond true (fun s h hp => hp.2.2.2.2.2.1) ?_)) (by simp)))
    have t2 : Tr tbl J ((.seq c17_o2 .ret)) (fun s h => True) .ret (fun s h => s.get [true, true, false] = G 0 ∧ s.get [false, false, true] = G 0 ∧ s.get [true, false, true] = G 2) := Tr.region fun s h hp => by
      simp (disch := first | omega | exact getEq rfl | exact getO0 | exact Nat.le_of_ble_eq_true rfl) [c17_o2, came_some, goI, List.getElem?_cons_zero, List.getElem?_cons_succ, kn, keep, frameOf, Heap.size, Heap.get, Eff.app, Heap.setOwn, putAt, AV.cells, fillA, loadA, takeA, mk, Eff.isAll, Eff.isNone, Eff.commutes, Eff.spares, okPair, apart, eqAgg, fits, LK.fits, allEq, aveq, eqk, mmA, beqT, wrapI, idxI, tdivI, tmodI, decT, decF, ibT, ibF, inT, inF, evScope_c, if_pos, if_neg]
    exact Tr.pre (fun s h _ => trivial) (Tr.post (fun s h q => by simp [c17, q]) t2)

end

def spec17 : SpecV
  | [.int .i64 lot, .int .i64 good, .int .i64 bad, .agg [.int .i64 a, .int .i64 b], .agg [.int .i64 c, .int .i64 d]] => some (planV lot good bad a b c d)
  | _ => none
def spec21 : SpecV
  | [.int .i64 lot, .int .i64 good, .int .i64 bad, .agg [.int .i64 a, .int .i64 b], .agg [.int .i64 c, .int .i64 d], .int .i64 n, .int .i64 k] =>
    if planOn lot good bad a b c d ∧ (n ≤ lot ∧ 0 ≤ k ∧ k < n) then some (.bool (enB lot good bad a b c d n.toNat k.toNat)) else none
  | _ => none
noncomputable def I22 : CallF := addV (addV I21 17 spec17) 21 spec21
theorem s22 : Sound Go.Proofs.Try.prog I22 := Sound.addV2 follows ok (Sound.addV follows ok s21 (by decide) (fun args v h => by
  unfold spec17 at h
  split at h
  · simp only [Option.some.injEq] at h; subst h; exact c17_ok I21 kn21' (fun _ _ => rfl) _ _ _ _ _ _ _
  · cases h)) s21 (by decide) (fun args v h => by
  unfold spec21 at h
  split at h
  · rename_i lot good bad a b c d n k
    split at h
    · rename_i hh
      simp only [Option.some.injEq] at h; subst h
      obtain ⟨⟨⟨a1, a2, a3⟩, ⟨b1, b2, b3⟩, ⟨c1, c2, c3⟩, d1, d2, d3⟩, e1, e2, e3⟩ := hh
      obtain ⟨N, rfl⟩ : ∃ N : Nat, n = N := ⟨n.toNat, by omega⟩
      obtain ⟨M, rfl⟩ : ∃ M : Nat, k = M := ⟨k.toNat, by omega⟩
      exact c21_ok I21 kn21 (fun _ _ => rfl) lot good bad a b c d N M (by omega) ⟨a2, a3⟩ ⟨b2, b3⟩ (by omega) (by omega) e1 (by omega)
    · cases h
  · cases h)
theorem g17 (h : Heap) (lot good bad a b c d : Int) : I22 17 [G lot, G good, G bad, .agg [G a, G b], .agg [G c, G d]] h = some (planV lot good bad a b c d, [], false) := by
  have hv : (planV lot good bad a b c d).flat = true := by unfold planV; split <;> rfl
  simp [I22, AEv.addV, spec17, hv]
theorem g21 (h : Heap) (lot good bad a b c d n k : Int) (ho : planOn lot good bad a b c d) (h1 : n ≤ lot) (h2 : 0 ≤ k) (h3 : k < n) : I22 21 [G lot, G good, G bad, .agg [G a, G b], .agg [G c, G d], G n, G k] h = some (.bool (enB lot good bad a b c d n.toNat k.toNat), [], false) := by
  simp [I22, AEv.addV, spec21, ho, h1, h2, h3]
theorem kn22 : Kn I22 := ⟨f67, f68, f59, f52, f60, f54, f58, f57, f56, f25, f18, f20, f30, f29, f31, f24, f22, f28, f23, f55, f27, f55r⟩
theorem kn22' : Kn1 I22 := ⟨kn22, g53, g19⟩
structure Kn2 (J : CallF) : Prop extends Kn1 J where
  k17 : ∀ (h : Heap) (lot good bad a b c d : Int), J 17 [G lot, G good, G bad, .agg [G a, G b], .agg [G c, G d]] h = some (planV lot good bad a b c d, [], false)
  k21 : ∀ (h : Heap) (lot good bad a b c d n k : Int) (ho : planOn lot good bad a b c d) (h1 : n ≤ lot) (h2 : 0 ≤ k) (h3 : k < n), J 21 [G lot, G good, G bad, .agg [G a, G b], .agg [G c, G d], G n, G k] h = some (.bool (enB lot good bad a b c d n.toNat k.toNat), [], false)
theorem kn22'' : Kn2 I22 := ⟨kn22', g17, g21⟩

end Go.Proofs.Ytlkgpcfhpeilhaa.Ev
