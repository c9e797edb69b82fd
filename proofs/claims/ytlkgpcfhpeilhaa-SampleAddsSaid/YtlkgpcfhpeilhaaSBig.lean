/-
  How great the ways are. No condition.
-/
import Derived.Test.YtlkgpcfhpeilhaaSOpen
set_option linter.unusedVariables false
set_option linter.unusedSimpArgs false
namespace Go.Proofs.Ytlkgpcfhpeilhaa.Ev
open Go Go.AEv

theorem ch_nx (n k : Nat) (h : k ≤ n) : (k + 1) * ch n (k + 1) = (n - k) * ch n k := by
  have h1 := ch_absorb n k
  have h2 : ch (n + 1) (k + 1) = ch n k + ch n (k + 1) := rfl
  rw [h2, Nat.mul_add] at h1
  have h3 : (n + 1) * ch n k = (k + 1) * ch n k + (n - k) * ch n k := by rw [← Nat.add_mul]; congr 1; omega
  omega
theorem v36_0 : ch 36 0 = 1 := ch_zero 36
theorem v36_1 : ch 36 1 = 36 := by
  have h : 1 * ch 36 1 = 36 * ch 36 0 := ch_nx 36 0 (by omega)
  rw [v36_0] at h
  omega
theorem v36_2 : ch 36 2 = 630 := by
  have h : 2 * ch 36 2 = 35 * ch 36 1 := ch_nx 36 1 (by omega)
  rw [v36_1] at h
  omega
theorem v36_3 : ch 36 3 = 7140 := by
  have h : 3 * ch 36 3 = 34 * ch 36 2 := ch_nx 36 2 (by omega)
  rw [v36_2] at h
  omega
theorem v36_4 : ch 36 4 = 58905 := by
  have h : 4 * ch 36 4 = 33 * ch 36 3 := ch_nx 36 3 (by omega)
  rw [v36_3] at h
  omega
theorem v36_5 : ch 36 5 = 376992 := by
  have h : 5 * ch 36 5 = 32 * ch 36 4 := ch_nx 36 4 (by omega)
  rw [v36_4] at h
  omega
theorem v36_6 : ch 36 6 = 1947792 := by
  have h : 6 * ch 36 6 = 31 * ch 36 5 := ch_nx 36 5 (by omega)
  rw [v36_5] at h
  omega
theorem v36_7 : ch 36 7 = 8347680 := by
  have h : 7 * ch 36 7 = 30 * ch 36 6 := ch_nx 36 6 (by omega)
  rw [v36_6] at h
  omega
theorem v36_8 : ch 36 8 = 30260340 := by
  have h : 8 * ch 36 8 = 29 * ch 36 7 := ch_nx 36 7 (by omega)
  rw [v36_7] at h
  omega
theorem v36_9 : ch 36 9 = 94143280 := by
  have h : 9 * ch 36 9 = 28 * ch 36 8 := ch_nx 36 8 (by omega)
  rw [v36_8] at h
  omega
theorem v36_10 : ch 36 10 = 254186856 := by
  have h : 10 * ch 36 10 = 27 * ch 36 9 := ch_nx 36 9 (by omega)
  rw [v36_9] at h
  omega
theorem v36_11 : ch 36 11 = 600805296 := by
  have h : 11 * ch 36 11 = 26 * ch 36 10 := ch_nx 36 10 (by omega)
  rw [v36_10] at h
  omega
theorem v36_12 : ch 36 12 = 1251677700 := by
  have h : 12 * ch 36 12 = 25 * ch 36 11 := ch_nx 36 11 (by omega)
  rw [v36_11] at h
  omega
theorem v36_13 : ch 36 13 = 2310789600 := by
  have h : 13 * ch 36 13 = 24 * ch 36 12 := ch_nx 36 12 (by omega)
  rw [v36_12] at h
  omega
theorem v36_14 : ch 36 14 = 3796297200 := by
  have h : 14 * ch 36 14 = 23 * ch 36 13 := ch_nx 36 13 (by omega)
  rw [v36_13] at h
  omega
theorem v36_15 : ch 36 15 = 5567902560 := by
  have h : 15 * ch 36 15 = 22 * ch 36 14 := ch_nx 36 14 (by omega)
  rw [v36_14] at h
  omega
theorem v36_16 : ch 36 16 = 7307872110 := by
  have h : 16 * ch 36 16 = 21 * ch 36 15 := ch_nx 36 15 (by omega)
  rw [v36_15] at h
  omega
theorem v36_17 : ch 36 17 = 8597496600 := by
  have h : 17 * ch 36 17 = 20 * ch 36 16 := ch_nx 36 16 (by omega)
  rw [v36_16] at h
  omega
theorem v36_18 : ch 36 18 = 9075135300 := by
  have h : 18 * ch 36 18 = 19 * ch 36 17 := ch_nx 36 17 (by omega)
  rw [v36_17] at h
  omega
theorem v36_19 : ch 36 19 = 8597496600 := by
  have h : 19 * ch 36 19 = 18 * ch 36 18 := ch_nx 36 18 (by omega)
  rw [v36_18] at h
  omega
theorem v36_20 : ch 36 20 = 7307872110 := by
  have h : 20 * ch 36 20 = 17 * ch 36 19 := ch_nx 36 19 (by omega)
  rw [v36_19] at h
  omega
theorem v36_21 : ch 36 21 = 5567902560 := by
  have h : 21 * ch 36 21 = 16 * ch 36 20 := ch_nx 36 20 (by omega)
  rw [v36_20] at h
  omega
theorem v36_22 : ch 36 22 = 3796297200 := by
  have h : 22 * ch 36 22 = 15 * ch 36 21 := ch_nx 36 21 (by omega)
  rw [v36_21] at h
  omega
theorem v36_23 : ch 36 23 = 2310789600 := by
  have h : 23 * ch 36 23 = 14 * ch 36 22 := ch_nx 36 22 (by omega)
  rw [v36_22] at h
  omega
theorem v36_24 : ch 36 24 = 1251677700 := by
  have h : 24 * ch 36 24 = 13 * ch 36 23 := ch_nx 36 23 (by omega)
  rw [v36_23] at h
  omega
theorem v36_25 : ch 36 25 = 600805296 := by
  have h : 25 * ch 36 25 = 12 * ch 36 24 := ch_nx 36 24 (by omega)
  rw [v36_24] at h
  omega
theorem v36_26 : ch 36 26 = 254186856 := by
  have h : 26 * ch 36 26 = 11 * ch 36 25 := ch_nx 36 25 (by omega)
  rw [v36_25] at h
  omega
theorem v36_27 : ch 36 27 = 94143280 := by
  have h : 27 * ch 36 27 = 10 * ch 36 26 := ch_nx 36 26 (by omega)
  rw [v36_26] at h
  omega
theorem v36_28 : ch 36 28 = 30260340 := by
  have h : 28 * ch 36 28 = 9 * ch 36 27 := ch_nx 36 27 (by omega)
  rw [v36_27] at h
  omega
theorem v36_29 : ch 36 29 = 8347680 := by
  have h : 29 * ch 36 29 = 8 * ch 36 28 := ch_nx 36 28 (by omega)
  rw [v36_28] at h
  omega
theorem v36_30 : ch 36 30 = 1947792 := by
  have h : 30 * ch 36 30 = 7 * ch 36 29 := ch_nx 36 29 (by omega)
  rw [v36_29] at h
  omega
theorem v36_31 : ch 36 31 = 376992 := by
  have h : 31 * ch 36 31 = 6 * ch 36 30 := ch_nx 36 30 (by omega)
  rw [v36_30] at h
  omega
theorem v36_32 : ch 36 32 = 58905 := by
  have h : 32 * ch 36 32 = 5 * ch 36 31 := ch_nx 36 31 (by omega)
  rw [v36_31] at h
  omega
theorem v36_33 : ch 36 33 = 7140 := by
  have h : 33 * ch 36 33 = 4 * ch 36 32 := ch_nx 36 32 (by omega)
  rw [v36_32] at h
  omega
theorem v36_34 : ch 36 34 = 630 := by
  have h : 34 * ch 36 34 = 3 * ch 36 33 := ch_nx 36 33 (by omega)
  rw [v36_33] at h
  omega
theorem v36_35 : ch 36 35 = 36 := by
  have h : 35 * ch 36 35 = 2 * ch 36 34 := ch_nx 36 34 (by omega)
  rw [v36_34] at h
  omega
theorem v36_36 : ch 36 36 = 1 := by
  have h : 36 * ch 36 36 = 1 * ch 36 35 := ch_nx 36 35 (by omega)
  rw [v36_35] at h
  omega
theorem ch_36 : ∀ k, ch 36 k ≤ 9075135300
  | 0 => by rw [v36_0]; decide
  | 1 => by rw [v36_1]; decide
  | 2 => by rw [v36_2]; decide
  | 3 => by rw [v36_3]; decide
  | 4 => by rw [v36_4]; decide
  | 5 => by rw [v36_5]; decide
  | 6 => by rw [v36_6]; decide
  | 7 => by rw [v36_7]; decide
  | 8 => by rw [v36_8]; decide
  | 9 => by rw [v36_9]; decide
  | 10 => by rw [v36_10]; decide
  | 11 => by rw [v36_11]; decide
  | 12 => by rw [v36_12]; decide
  | 13 => by rw [v36_13]; decide
  | 14 => by rw [v36_14]; decide
  | 15 => by rw [v36_15]; decide
  | 16 => by rw [v36_16]; decide
  | 17 => by rw [v36_17]; decide
  | 18 => by rw [v36_18]; decide
  | 19 => by rw [v36_19]; decide
  | 20 => by rw [v36_20]; decide
  | 21 => by rw [v36_21]; decide
  | 22 => by rw [v36_22]; decide
  | 23 => by rw [v36_23]; decide
  | 24 => by rw [v36_24]; decide
  | 25 => by rw [v36_25]; decide
  | 26 => by rw [v36_26]; decide
  | 27 => by rw [v36_27]; decide
  | 28 => by rw [v36_28]; decide
  | 29 => by rw [v36_29]; decide
  | 30 => by rw [v36_30]; decide
  | 31 => by rw [v36_31]; decide
  | 32 => by rw [v36_32]; decide
  | 33 => by rw [v36_33]; decide
  | 34 => by rw [v36_34]; decide
  | 35 => by rw [v36_35]; decide
  | 36 => by rw [v36_36]; decide
  | k + 37 => by rw [ch_gt _ _ (by omega)]; decide
theorem ch_up (n k : Nat) : ch n k ≤ ch (n + 1) k := by
  cases k with
  | zero => rw [ch_zero, ch_zero]; exact Nat.le_refl _
  | succ k => show ch n (k + 1) ≤ ch n k + ch n (k + 1); omega
theorem ch_big (k : Nat) : ∀ j n, n + j = 36 → ch n k ≤ 9075135300
  | 0, n, h => by obtain rfl : n = 36 := by omega
                  exact ch_36 k
  | j + 1, n, h => Nat.le_trans (ch_up n k) (ch_big k j (n + 1) (by omega))
theorem ofZ_big (n k : Int) (h : n ≤ 36) : ofZ n k ≤ 9075135300 := by
  unfold ofZ
  split
  · exact ch_big _ (36 - n.toNat) _ (by omega)
  · omega

end Go.Proofs.Ytlkgpcfhpeilhaa.Ev
