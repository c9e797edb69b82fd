/-
  The chance that a single plan accepts does not grow with the number of bad pieces: plain arithmetic. No condition.
-/
import Derived.Test.YtlkgpcfhpeilhaaSFirst
set_option linter.unusedVariables false
set_option linter.unusedSimpArgs false
namespace Go.Proofs.Ytlkgpcfhpeilhaa.Ev
open Go Go.AEv

theorem ch_next (n k : Nat) (h : k ≤ n) : (k + 1) * ch n (k + 1) = (n - k) * ch n k := by
  have h1 := ch_absorb n k
  have h2 : ch (n + 1) (k + 1) = ch n k + ch n (k + 1) := rfl
  rw [h2, Nat.mul_add] at h1
  have h3 : (n + 1) * ch n k = (k + 1) * ch n k + (n - k) * ch n k := by rw [← Nat.add_mul]; congr 1; omega
  omega

theorem ofZ_next (n k : Int) (hn : 0 ≤ n) : (k + 1) * (ofZ n (k + 1) : Int) = (n - k) * (ofZ n k : Int) := by
  by_cases h0 : 0 ≤ k
  · by_cases h1 : k ≤ n
    · obtain ⟨N, rfl⟩ : ∃ N : Nat, n = N := ⟨n.toNat, by omega⟩
      obtain ⟨K, rfl⟩ : ∃ K : Nat, k = K := ⟨k.toNat, by omega⟩
      have e1 : ofZ (N : Int) (K : Int) = ch N K := by unfold ofZ; rw [if_pos ⟨h0, h1⟩]; rfl
      have e2 : ofZ (N : Int) ((K : Int) + 1) = ch N (K + 1) := by
        unfold ofZ
        split
        · rfl
        · rw [ch_gt]; omega
      rw [e1, e2]
      have := ch_next N K (by omega)
      rw [← Int.ofNat_sub (by omega)]
      exact_mod_cast this
    · have e1 : ofZ n k = 0 := by unfold ofZ; rw [if_neg (by omega)]
      have e2 : ofZ n (k + 1) = 0 := by unfold ofZ; rw [if_neg (by omega)]
      rw [e1, e2]; simp
  · have e1 : ofZ n k = 0 := by unfold ofZ; rw [if_neg (by omega)]
    rw [e1]
    by_cases h1 : k = -1
    · subst h1; simp
    · have e2 : ofZ n (k + 1) = 0 := by unfold ofZ; rw [if_neg (by omega)]
      rw [e2]; simp

theorem term_next (lot b n : Int) (k : Nat) (h0 : 0 ≤ n) (h1 : n ≤ lot) :
    (lot - b) * ((ofZ n k * ofZ (lot - n) (b - k) : Nat) : Int) = (k + 1) * ((ofZ n (k + 1 : Nat) * ofZ (lot - n) (b + 1 - (k + 1 : Nat)) : Nat) : Int) + (b + 1 - k) * ((ofZ n k * ofZ (lot - n) (b + 1 - k) : Nat) : Int) := by
  have e1 := ofZ_next n k h0
  have e2 := ofZ_next (lot - n) (b - k) (by omega)
  rw [show b + 1 - ((k + 1 : Nat) : Int) = b - k by omega, show ((k + 1 : Nat) : Int) = (k : Int) + 1 by omega]
  rw [show b - (k : Int) + 1 = b + 1 - k by omega] at e2
  simp only [Int.natCast_mul]
  have x1 : (lot - b) = (n - k) + (lot - n - (b - k)) := by omega
  have x2 : (lot - b) * ((ofZ n k : Int) * (ofZ (lot - n) (b - k) : Int)) = ((n - k) * (ofZ n k : Int)) * (ofZ (lot - n) (b - k) : Int) + (ofZ n k : Int) * ((lot - n - (b - k)) * (ofZ (lot - n) (b - k) : Int)) := by
    rw [x1, Int.add_mul]; congr 1
    · rw [Int.mul_assoc]
    · rw [Int.mul_left_comm]
  rw [x2, ← e1, ← e2, Int.mul_assoc, Int.mul_left_comm (ofZ n k : Int)]

theorem acc_next (lot b n : Int) (h0 : 0 ≤ n) (h1 : n ≤ lot) : ∀ m : Nat, (lot - b) * (acc lot b n m : Int) = (b + 1) * (acc lot (b + 1) n m : Int) + m * ((ofZ n m * ofZ (lot - n) (b + 1 - m) : Nat) : Int)
  | 0 => by simp [acc]
  | m + 1 => by
    have ih := acc_next lot b n h0 h1 m
    have ht := term_next lot b n m h0 h1
    simp only [acc, Int.natCast_add, Int.mul_add] at ih ⊢
    rw [ih]
    have ht' : (lot - b) * ((ofZ n m * ofZ (lot - n) (b - m) : Nat) : Int) = _ := ht
    rw [ht', show (b + 1 - (m : Int)) * ((ofZ n m * ofZ (lot - n) (b + 1 - m) : Nat) : Int) = (b + 1) * ((ofZ n m * ofZ (lot - n) (b + 1 - m) : Nat) : Int) - m * ((ofZ n m * ofZ (lot - n) (b + 1 - m) : Nat) : Int) from Int.sub_mul _ _ _]
    simp only [Int.natCast_add, Int.natCast_one] at *
    generalize (b + 1) * ((ofZ n m * ofZ (lot - n) (b + 1 - m) : Nat) : Int) = p
    generalize (m : Int) * ((ofZ n m * ofZ (lot - n) (b + 1 - m) : Nat) : Int) = q
    generalize ((m : Int) + 1) * ((ofZ n (m + 1) * ofZ (lot - n) (b + 1 - (m + 1)) : Nat) : Int) = r
    omega

/-- With one bad piece more the chance is no greater. -/
theorem acc_falls {lot b n : Int} (h0 : 0 ≤ n) (h1 : n ≤ lot) (h2 : 0 ≤ b) (h3 : b < lot) (m : Nat) : (acc lot (b + 1) n m : Int) * (ofZ lot b : Int) ≤ (acc lot b n m : Int) * (ofZ lot (b + 1) : Int) := by
  have e1 := acc_next lot b n h0 h1 m
  have e2 := ofZ_next lot b (by omega)
  have e3 : 0 ≤ (m : Int) * ((ofZ n m * ofZ (lot - n) (b + 1 - m) : Nat) : Int) := Int.mul_nonneg (by omega) (by omega)
  generalize (m : Int) * ((ofZ n m * ofZ (lot - n) (b + 1 - m) : Nat) : Int) = e at *
  have hC : (0 : Int) ≤ (ofZ lot b : Int) := by omega
  generalize (acc lot (b + 1) n m : Int) = A' at *
  generalize (acc lot b n m : Int) = A at *
  generalize (ofZ lot b : Int) = C at *
  generalize (ofZ lot (b + 1) : Int) = C' at *
  have hy : 0 < b + 1 := by omega
  generalize b + 1 = y at *
  generalize lot - b = x at *
  refine Int.le_of_mul_le_mul_left (a := y) ?_ hy
  have x1 : y * (A' * C) + e * C = x * A * C := by rw [e1, Int.add_mul, Int.mul_assoc]
  have x2 : y * (A * C') = x * A * C := by rw [Int.mul_left_comm, e2, Int.mul_left_comm, Int.mul_assoc]
  have x3 : 0 ≤ e * C := Int.mul_nonneg e3 hC
  rw [x2, ← x1]
  exact Int.le_add_of_nonneg_right x3

theorem acc_up (lot b n : Int) (m : Nat) : acc lot b n m ≤ acc lot b n (m + 1) := by simp only [acc]; omega

end Go.Proofs.Ytlkgpcfhpeilhaa.Ev
