/-
  What is known of the calls so far, each as an equation for 'simp'. No condition.
-/
import Derived.Test.YtlkgpcfhpeilhaaSCmp
set_option linter.unusedVariables false
set_option linter.unusedSimpArgs false
namespace Go.Proofs.Ytlkgpcfhpeilhaa.Ev
open Go Go.AEv

attribute [local simp] evFunc initS evOps_c evTrim_c evSkip_c evExit_c evRet_c evSeq_c evCond_c evBlock_c evDraw_c runOps_n runOps_c exec_n exec_g pure1_c act AOpd.ev T.get T.set T.put evBin evUn forceT_eq forceV_eq forceL_eq evRess evRes one keep runFP_n runFP_c app_none AV.flats AV.flat

theorem sg_mul {g x : Int} (hg : 0 < g) : sg (g * x) = sg x := by
  rcases Int.lt_trichotomy x 0 with h | h | h
  · rw [sg_neg h, sg_neg (Int.mul_neg_of_pos_of_neg hg h)]
  · subst h; rw [Int.mul_zero]
  · rw [sg_pos h, sg_pos (Int.mul_pos hg h)]

theorem fr_ok {x y : Int} (h1 : 0 ≤ x) (h2 : x < 9223372036854775808) (h3 : 0 < y) (h4 : y < 9223372036854775808) : ∃ g u v : Int, 0 < g ∧ x = g * u ∧ y = g * v ∧ fr x y = .agg [G u, G v] ∧ frOk u v := by
  obtain ⟨X, rfl⟩ : ∃ X : Nat, x = X := ⟨x.toNat, by omega⟩
  obtain ⟨Y, rfl⟩ : ∃ Y : Nat, y = Y := ⟨y.toNat, by omega⟩
  obtain ⟨g, u, v, hg, e1, e2, e3, e4, e5⟩ := fr_parts (a := X) (b := Y) (by omega)
  refine ⟨g, u, v, by omega, by rw [e1]; simp, by rw [e2]; simp, by unfold fr; simp only [Int.toNat_natCast]; rw [e3, e4], ?_⟩
  have hv : 0 < v := by
    rcases Nat.eq_zero_or_pos v with h | h
    · subst h; rw [Nat.mul_zero] at e2; omega
    · exact h
  have l1 : u ≤ X := by rw [e1]; exact Nat.le_mul_of_pos_left _ hg
  have l2 : v ≤ Y := by rw [e2]; exact Nat.le_mul_of_pos_left _ hg
  unfold frOk; omega

section
variable (h : Heap)
theorem f67 (n lo hi : Int) : I20 67 [G n, G lo, G hi] h = some (.bool (decide (lo ≤ n ∧ n ≤ hi)), [], false) := k67 n lo hi h
theorem f68 (a b : Int) (h1 : 0 ≤ a) (h2 : a < 9223372036854775808) (h3 : 0 ≤ b) (h4 : b < 9223372036854775808) : I20 68 [G a, G b] h = some (G (Nat.gcd a.toNat b.toNat), [], false) := by
  have : I7 68 [G a, G b] h = some (G (Nat.gcd a.toNat b.toNat), [], false) := by simp [I7, AEv.addV, spec68, h1, h2, h3, h4]
  exact this
theorem f59 (a b : Int) (h1 : 0 ≤ a) (h2 : a < 9223372036854775808) (h3 : 0 ≤ b) (h4 : b < 9223372036854775808) : I20 59 [G a, G b] h = some (G (Nat.gcd a.toNat b.toNat), [], false) := by
  have : I14 59 [G a, G b] h = some (G (Nat.gcd a.toNat b.toNat), [], false) := by simp [I14, AEv.addV, spec68, h1, h2, h3, h4]
  exact this
theorem f52 (lot bad : Int) : I20 52 [G lot, G bad] h = some (.bool (decide (lotOk lot bad)), [], false) := k10.k52 lot bad h
theorem f60 (lot n c : Int) (hl : lot < 9223372036854775808) : I20 60 [G lot, G n, G c] h = some (.bool (decide (planOk lot n c)), [], false) := k10.k60 lot n c h hl
theorem f54 : I20 54 [] h = some (.ptr h.size 0 1369, [.cells 0 1369 (tri 37 0)], false) := k10.k54 h
theorem f58 (b : Nat) (n k : Int) (hb : h.get b = .cells 0 1369 (tri 37 0)) (hn : n ≤ 36) : I20 58 [.ptr b 0 1369, G n, G k] h = some (G (ofZ n k), [], false) := k10.k58 b n k h hb hn
theorem f57 (b : Nat) (lot bad n c : Int) (hb : h.get b = .cells 0 1369 (tri 37 0)) (h0 : 0 ≤ n) (h1 : n ≤ lot) (h2 : lot ≤ 36) (h3 : 0 ≤ bad) (h4 : bad ≤ 36) (h5 : 0 ≤ c) (h6 : c ≤ 36) : I20 57 [.ptr b 0 1369, G lot, G bad, G n, G c] h = some (G (acc lot bad n (c.toNat + 1)), [], false) := k10.k57 b lot bad n c h hb h0 h1 h2 h3 h4 h5 h6
theorem f56 (num den : Int) (h1 : 0 ≤ num) (h2 : num < 9223372036854775808) (h3 : 0 < den) (h4 : den < 9223372036854775808) : I20 56 [G num, G den] h = some (fr num den, [], false) := k10.k56 num den h h1 h2 h3 h4
theorem f25 (num den : Int) (h1 : 0 ≤ num) (h2 : num < 9223372036854775808) (h3 : 0 < den) (h4 : den < 9223372036854775808) : I20 25 [G num, G den] h = some (fr num den, [], false) := n25 h num den h1 h2 h3 h4
theorem f18 (lot bad : Int) : I20 18 [G lot, G bad] h = some (.bool (decide (lotOk lot bad)), [], false) := n18 h lot bad
theorem f20 : I20 20 [] h = some (.bool true, [], false) := n20 h
theorem f30 (lot n c : Int) : I20 30 [G lot, G n, G c] h = some (.bool (decide (planOk lot n c)), [], false) := n30 h lot n c
theorem f29 (n k : Int) (hn : n ≤ 36) : I20 29 [G n, G k] h = some (G (ofZ n k), [], false) := n29 h n k hn
theorem f31 (lot bad n c : Int) (h0 : 0 ≤ n) (h1 : n ≤ lot) (h2 : lot ≤ 36) (h3 : 0 ≤ bad) (h4 : bad ≤ 36) (h5 : 0 ≤ c) (h6 : c ≤ 36) : I20 31 [G lot, G bad, G n, G c] h = some (G (acc lot bad n (c.toNat + 1)), [], false) := by
  have : I17 31 [G lot, G bad, G n, G c] h = some (G (acc lot bad n (c.toNat + 1)), [], false) := by
    have : (0 ≤ n ∧ n ≤ lot ∧ lot ≤ 36) ∧ (0 ≤ bad ∧ bad ≤ 36) ∧ (0 ≤ c ∧ c ≤ 36) := by omega
    simp only [I17, AEv.addV, if_true, AV.flats, AV.flat, Bool.and_self, spec31, if_pos this, Option.bind_some]
  exact this
theorem f24 (x n : Int) (h1 : 0 < n) (h2 : n < 9223372036854775808) : I20 24 [G x, G n] h = some (G (mdZ x n), [], false) := n24 x n h h1 h2
theorem f22 (a b c : Int) : I20 22 [.agg [G a, G b, G c]] h = some (.tup [G (lotZ a), G (nZ a b), G (cZ a b c)], [], false) := o22 h a b c
theorem f28 (lot bad : Int) : I20 28 [G lot, G bad] h = some (if lotOk lot bad then .tup [G (ofZ lot bad), G 0] else .tup [G 0, G 2], [], false) := n28 h lot bad
/-- Single, of a lot and a plan for it. -/
theorem f23 (lot bad n c : Int) (h0 : 1 ≤ n) (h1 : n ≤ lot) (h2 : lot ≤ 36) (h3 : 0 ≤ bad) (h4 : bad ≤ lot) (h5 : 0 ≤ c) (h6 : c < n) : I20 23 [G lot, G bad, G n, G c] h = some (.tup [fr (acc lot bad n (c.toNat + 1)) (ofZ lot bad), G 0], [], false) := by
  have hh : lotOk lot bad ∧ planOk lot n c := by unfold lotOk planOk; omega
  have := o23 h lot bad n c (by omega)
  rw [if_pos hh] at this
  exact this
theorem f55 (a b c d : Int) (h1 : 0 ≤ a) (h2 : a < 9223372036854775808) (h3 : 0 < b) (h4 : b < 9223372036854775808) (h5 : 0 ≤ c) (h6 : c < 9223372036854775808) (h7 : 0 < d) (h8 : d < 9223372036854775808) : I20 55 [.agg [G a, G b], .agg [G c, G d]] h = some (G (sg (a * d - c * b)), [], false) := by
  have : I19 55 [.agg [G a, G b], .agg [G c, G d]] h = some (G (sg (a * d - c * b)), [], false) := by
    simp [I19, AEv.addV, spec55, frOk, h1, h2, h3, h4, h5, h6, h7, h8]
  exact this
theorem f27 (a b c d : Int) (h1 : 0 ≤ a) (h2 : a < 9223372036854775808) (h3 : 0 < b) (h4 : b < 9223372036854775808) (h5 : 0 ≤ c) (h6 : c < 9223372036854775808) (h7 : 0 < d) (h8 : d < 9223372036854775808) : I20 27 [.agg [G a, G b], .agg [G c, G d]] h = some (.bool (decide (a * d < c * b)), [], false) := by
  simp [I20, AEv.addV, spec27, frOk, h1, h2, h3, h4, h5, h6, h7, h8]
/-- The comparison of a reduced fraction. -/
theorem f55r (x y c d : Int) (h1 : 0 ≤ x) (h2 : x < 9223372036854775808) (h3 : 0 < y) (h4 : y < 9223372036854775808) (h5 : 0 ≤ c) (h6 : c < 9223372036854775808) (h7 : 0 < d) (h8 : d < 9223372036854775808) : I20 55 [fr x y, .agg [G c, G d]] h = some (G (sg (x * d - c * y)), [], false) := by
  obtain ⟨g, u, v, hg, e1, e2, e3, e4⟩ := fr_ok h1 h2 h3 h4
  obtain ⟨k1, k2, k3, k4⟩ := e4
  rw [e3, f55 h u v c d k1 k2 k3 k4 h5 h6 h7 h8]
  have : x * d - c * y = g * (u * d - c * v) := by
    rw [e1, e2, Int.mul_sub, Int.mul_assoc]; congr 1; simp only [Int.mul_left_comm]
  rw [this, sg_mul hg]
end

theorem sg_ge {x : Int} (h : 0 ≤ x) : 0 ≤ sg x := by unfold sg; split <;> (try split) <;> omega
theorem sg_le {x : Int} (h : x ≤ 0) : sg x ≤ 0 := by unfold sg; split <;> (try split) <;> omega

/-- What is known of the calls, of any table of them. -/
structure Kn (J : CallF) : Prop where
  k67 : ∀ (h : Heap) (n lo hi : Int), J 67 [G n, G lo, G hi] h = some (.bool (decide (lo ≤ n ∧ n ≤ hi)), [], false)
  k68 : ∀ (h : Heap) (a b : Int) (h1 : 0 ≤ a) (h2 : a < 9223372036854775808) (h3 : 0 ≤ b) (h4 : b < 9223372036854775808), J 68 [G a, G b] h = some (G (Nat.gcd a.toNat b.toNat), [], false)
  k59 : ∀ (h : Heap) (a b : Int) (h1 : 0 ≤ a) (h2 : a < 9223372036854775808) (h3 : 0 ≤ b) (h4 : b < 9223372036854775808), J 59 [G a, G b] h = some (G (Nat.gcd a.toNat b.toNat), [], false)
  k52 : ∀ (h : Heap) (lot bad : Int), J 52 [G lot, G bad] h = some (.bool (decide (lotOk lot bad)), [], false)
  k60 : ∀ (h : Heap) (lot n c : Int) (hl : lot < 9223372036854775808), J 60 [G lot, G n, G c] h = some (.bool (decide (planOk lot n c)), [], false)
  k54 : ∀ (h : Heap), J 54 [] h = some (.ptr h.size 0 1369, [.cells 0 1369 (tri 37 0)], false)
  k58 : ∀ (h : Heap) (b : Nat) (n k : Int) (hb : h.get b = .cells 0 1369 (tri 37 0)) (hn : n ≤ 36), J 58 [.ptr b 0 1369, G n, G k] h = some (G (ofZ n k), [], false)
  k57 : ∀ (h : Heap) (b : Nat) (lot bad n c : Int) (hb : h.get b = .cells 0 1369 (tri 37 0)) (h0 : 0 ≤ n) (h1 : n ≤ lot) (h2 : lot ≤ 36) (h3 : 0 ≤ bad) (h4 : bad ≤ 36) (h5 : 0 ≤ c) (h6 : c ≤ 36), J 57 [.ptr b 0 1369, G lot, G bad, G n, G c] h = some (G (acc lot bad n (c.toNat + 1)), [], false)
  k56 : ∀ (h : Heap) (num den : Int) (h1 : 0 ≤ num) (h2 : num < 9223372036854775808) (h3 : 0 < den) (h4 : den < 9223372036854775808), J 56 [G num, G den] h = some (fr num den, [], false)
  k25 : ∀ (h : Heap) (num den : Int) (h1 : 0 ≤ num) (h2 : num < 9223372036854775808) (h3 : 0 < den) (h4 : den < 9223372036854775808), J 25 [G num, G den] h = some (fr num den, [], false)
  k18 : ∀ (h : Heap) (lot bad : Int), J 18 [G lot, G bad] h = some (.bool (decide (lotOk lot bad)), [], false)
  k20 : ∀ (h : Heap), J 20 [] h = some (.bool true, [], false)
  k30 : ∀ (h : Heap) (lot n c : Int), J 30 [G lot, G n, G c] h = some (.bool (decide (planOk lot n c)), [], false)
  k29 : ∀ (h : Heap) (n k : Int) (hn : n ≤ 36), J 29 [G n, G k] h = some (G (ofZ n k), [], false)
  k31 : ∀ (h : Heap) (lot bad n c : Int) (h0 : 0 ≤ n) (h1 : n ≤ lot) (h2 : lot ≤ 36) (h3 : 0 ≤ bad) (h4 : bad ≤ 36) (h5 : 0 ≤ c) (h6 : c ≤ 36), J 31 [G lot, G bad, G n, G c] h = some (G (acc lot bad n (c.toNat + 1)), [], false)
  k24 : ∀ (h : Heap) (x n : Int) (h1 : 0 < n) (h2 : n < 9223372036854775808), J 24 [G x, G n] h = some (G (mdZ x n), [], false)
  k22 : ∀ (h : Heap) (a b c : Int), J 22 [.agg [G a, G b, G c]] h = some (.tup [G (lotZ a), G (nZ a b), G (cZ a b c)], [], false)
  k28 : ∀ (h : Heap) (lot bad : Int), J 28 [G lot, G bad] h = some (if lotOk lot bad then .tup [G (ofZ lot bad), G 0] else .tup [G 0, G 2], [], false)
  k23 : ∀ (h : Heap) (lot bad n c : Int) (h0 : 1 ≤ n) (h1 : n ≤ lot) (h2 : lot ≤ 36) (h3 : 0 ≤ bad) (h4 : bad ≤ lot) (h5 : 0 ≤ c) (h6 : c < n), J 23 [G lot, G bad, G n, G c] h = some (.tup [fr (acc lot bad n (c.toNat + 1)) (ofZ lot bad), G 0], [], false)
  k55 : ∀ (h : Heap) (a b c d : Int) (h1 : 0 ≤ a) (h2 : a < 9223372036854775808) (h3 : 0 < b) (h4 : b < 9223372036854775808) (h5 : 0 ≤ c) (h6 : c < 9223372036854775808) (h7 : 0 < d) (h8 : d < 9223372036854775808), J 55 [.agg [G a, G b], .agg [G c, G d]] h = some (G (sg (a * d - c * b)), [], false)
  k27 : ∀ (h : Heap) (a b c d : Int) (h1 : 0 ≤ a) (h2 : a < 9223372036854775808) (h3 : 0 < b) (h4 : b < 9223372036854775808) (h5 : 0 ≤ c) (h6 : c < 9223372036854775808) (h7 : 0 < d) (h8 : d < 9223372036854775808), J 27 [.agg [G a, G b], .agg [G c, G d]] h = some (.bool (decide (a * d < c * b)), [], false)
  k55r : ∀ (h : Heap) (x y c d : Int) (h1 : 0 ≤ x) (h2 : x < 9223372036854775808) (h3 : 0 < y) (h4 : y < 9223372036854775808) (h5 : 0 ≤ c) (h6 : c < 9223372036854775808) (h7 : 0 < d) (h8 : d < 9223372036854775808), J 55 [fr x y, .agg [G c, G d]] h = some (G (sg (x * d - c * y)), [], false)

theorem kn20 : Kn I20 := ⟨f67, f68, f59, f52, f60, f54, f58, f57, f56, f25, f18, f20, f30, f29, f31, f24, f22, f28, f23, f55, f27, f55r⟩

end Go.Proofs.Ytlkgpcfhpeilhaa.Ev
