/-
  What a course does, in numbers: the ways that are open, accepted and rejected after each number of pieces. No condition.
-/
import Derived.Test.YtlkgpcfhpeilhaaSCrs
import Derived.Test.YtlkgpcfhpeilhaaEvYld
set_option linter.unusedVariables false
set_option linter.unusedSimpArgs false
namespace Go.Proofs.Ytlkgpcfhpeilhaa.Ev
open Go Go.AEv

def prv (o : Nat → Nat) : Nat → Nat
  | 0 => 0
  | k + 1 => o k
def nx (o : Nat → Nat) (k : Nat) : Nat := o k + prv o k
def opn (A R : Nat → Int) : Nat → Nat → Nat
  | 0 => fun k => if k = 0 then 1 else 0
  | i + 1 => fun k => if (k : Int) ≤ A i then 0 else if R i ≤ k then 0 else nx (opn A R i) k

theorem opn_le (A R : Nat → Int) : ∀ i k, opn A R i k ≤ ch i k
  | 0, k => by
    show (if k = 0 then 1 else 0) ≤ _
    split
    · rename_i h; subst h; rw [ch_zero]; exact Nat.le_refl _
    · exact Nat.zero_le _
  | i + 1, k => by
    show (if (k : Int) ≤ A i then 0 else if R i ≤ k then 0 else nx (opn A R i) k) ≤ _
    have : nx (opn A R i) k ≤ ch (i + 1) k := by
      cases k with
      | zero => have := opn_le A R i 0; rw [ch_zero] at this ⊢; simpa [nx, prv] using this
      | succ k =>
        have h1 := opn_le A R i k
        have h2 := opn_le A R i (k + 1)
        rw [ch_step (i + 1) (k + 1) (by omega) (by omega)]
        show opn A R i (k + 1) + opn A R i k ≤ _
        simp only [Nat.add_sub_cancel]; omega
    split
    · exact Nat.zero_le _
    · split
      · exact Nat.zero_le _
      · exact this
theorem nx_le (A R : Nat → Int) (i k : Nat) : nx (opn A R i) k ≤ ch (i + 1) k := by
  cases k with
  | zero => have := opn_le A R i 0; rw [ch_zero] at this ⊢; simpa [nx, prv] using this
  | succ k =>
    have h1 := opn_le A R i k
    have h2 := opn_le A R i (k + 1)
    rw [ch_step (i + 1) (k + 1) (by omega) (by omega)]
    show opn A R i (k + 1) + opn A R i k ≤ _
    simp only [Nat.add_sub_cancel]; omega
theorem opn_gt (A R : Nat → Int) {i k : Nat} (h : i < k) : opn A R i k = 0 := by have := opn_le A R i k; rw [ch_gt i k h] at this; omega
theorem nx_gt (A R : Nat → Int) {i k : Nat} (h : i + 1 < k) : nx (opn A R i) k = 0 := by have := nx_le A R i k; rw [ch_gt _ _ h] at this; omega
theorem opn_big (A R : Nat → Int) {i : Nat} (hi : i ≤ 36) (k : Nat) : opn A R i k ≤ 68719476736 := Nat.le_trans (opn_le A R i k) (Nat.le_trans (ch_le _ _) (Nat.le_trans (Nat.pow_le_pow_right (by omega) hi) (by decide)))
theorem nx_big (A R : Nat → Int) {i : Nat} (hi : i < 36) (k : Nat) : nx (opn A R i) k ≤ 68719476736 := Nat.le_trans (nx_le A R i k) (Nat.le_trans (ch_le _ _) (Nat.le_trans (Nat.pow_le_pow_right (by omega) hi) (by decide)))

section
variable (lot bad : Int) (A R : Nat → Int)
/-- The ways after i + 1 pieces, k of them bad. -/
def tk (i k : Nat) : Nat := nx (opn A R i) k * ofZ (lot - i - 1) (bad - k)
def yS (i : Nat) : Nat → Nat
  | 0 => 0
  | m + 1 => yS i m + if (m : Int) ≤ A i then tk lot bad A R i m else 0
def nS (i : Nat) : Nat → Nat
  | 0 => 0
  | m + 1 => nS i m + if (m : Int) ≤ A i then 0 else if R i ≤ m then tk lot bad A R i m else 0
/-- Accepted, and rejected, after i + 1 pieces. -/
def yC (i : Nat) : Nat := yS lot bad A R i (i + 2)
def nC (i : Nat) : Nat := nS lot bad A R i (i + 2)
def yT : Nat → Nat
  | 0 => 0
  | i + 1 => yT i + yC lot bad A R i
def pT : Nat → Nat
  | 0 => 0
  | i + 1 => pT i + (i + 1) * (yC lot bad A R i + nC lot bad A R i)
end

section
variable {lot bad : Int} {A R : Nat → Int}
theorem tk_le (i k : Nat) : tk lot bad A R i k ≤ ofZ ((i : Int) + 1) k * ofZ (lot - ((i : Int) + 1)) (bad - k) := by
  unfold tk
  rw [show lot - ((i : Int) + 1) = lot - i - 1 by omega]
  refine Nat.mul_le_mul_right _ ?_
  have h1 := nx_le A R i k
  by_cases h : k ≤ i + 1
  · have : ofZ ((i : Int) + 1) k = ch (i + 1) k := by unfold ofZ; rw [if_pos (by omega)]; congr 1
    omega
  · rw [ch_gt _ _ (by omega)] at h1; omega
theorem yn_le (i : Nat) : ∀ m, yS lot bad A R i m + nS lot bad A R i m ≤ acc lot bad ((i : Int) + 1) m
  | 0 => by simp [yS, nS]
  | m + 1 => by
    have h := yn_le i m
    have ht := tk_le (lot := lot) (bad := bad) (A := A) (R := R) i m
    simp only [yS, nS, acc]
    by_cases h1 : (m : Int) ≤ A i
    · rw [if_pos h1, if_pos h1]; omega
    · rw [if_neg h1, if_neg h1]
      by_cases h2 : R i ≤ m
      · rw [if_pos h2]; omega
      · rw [if_neg h2]; omega
theorem yn_all (i m : Nat) (h1 : (i : Int) + 1 ≤ lot) (h2 : 0 ≤ bad) (h3 : bad ≤ lot) : yS lot bad A R i m + nS lot bad A R i m ≤ ofZ lot bad := Nat.le_trans (yn_le i m) (acc_le_all (by omega) h1 h2 h3 m)
theorem tk_all (i k : Nat) (h1 : (i : Int) + 1 ≤ lot) (h2 : 0 ≤ bad) (h3 : bad ≤ lot) : tk lot bad A R i k ≤ ofZ lot bad := by
  have a := tk_le (lot := lot) (bad := bad) (A := A) (R := R) i k
  have b := acc_le_all (n := (i : Int) + 1) (by omega) h1 h2 h3 (k + 1)
  simp only [acc] at b; omega
theorem ofZ_36 (h : lot ≤ 36) : ofZ lot bad ≤ 68719476736 := Nat.le_trans (ofZ_le lot bad 36 (by omega)) (by decide)
theorem yT_le (h2 : 0 ≤ bad) (h3 : bad ≤ lot) : ∀ i : Nat, (i : Int) ≤ lot → yT lot bad A R i ≤ i * ofZ lot bad
  | 0, _ => by simp [yT]
  | i + 1, h => by
    have := yT_le h2 h3 i (by omega)
    have a := yn_all (lot := lot) (bad := bad) (A := A) (R := R) i (i + 2) (by omega) h2 h3
    simp only [yT, yC, Nat.add_mul, Nat.one_mul]; omega
theorem pT_le (h2 : 0 ≤ bad) (h3 : bad ≤ lot) (hl : lot ≤ 36) : ∀ i : Nat, (i : Int) ≤ lot → pT lot bad A R i ≤ i * (36 * ofZ lot bad)
  | 0, _ => by simp [pT]
  | i + 1, h => by
    have := pT_le h2 h3 hl i (by omega)
    have a := yn_all (lot := lot) (bad := bad) (A := A) (R := R) i (i + 2) (by omega) h2 h3
    have b := Nat.mul_le_mul (show i + 1 ≤ 36 by omega) a
    simp only [pT, yC, nC]
    rw [show (i + 1) * (36 * ofZ lot bad) = i * (36 * ofZ lot bad) + 36 * ofZ lot bad by rw [Nat.add_mul, Nat.one_mul]]; omega
end

/-! ### Cells -/
theorem zs_at (A : Nat → Int) : ∀ (m i : Nat), (zs A m)[i]? = if i < m then some (G (A i)) else none
  | 0, i => by simp [zs, zl]
  | m + 1, i => by
    rw [← zs_succ]
    by_cases h : i < m
    · rw [List.getElem?_append_left (by rw [zs_len]; exact h), zs_at A m i, if_pos h, if_pos (by omega)]
    · rw [List.getElem?_append_right (by rw [zs_len]; omega), zs_len]
      by_cases h2 : i = m
      · subst h2; rw [Nat.sub_self, if_pos (by omega)]; rfl
      · rw [if_neg (by omega), List.getElem?_eq_none (by simp; omega)]
theorem zs_ext (A B : Nat → Int) (m : Nat) (h : ∀ k, k < m → A k = B k) : zs A m = zs B m := by
  refine List.ext_getElem? fun i => ?_
  rw [zs_at, zs_at]
  by_cases hi : i < m
  · rw [if_pos hi, if_pos hi, h i hi]
  · rw [if_neg hi, if_neg hi]
theorem zs_set (A : Nat → Int) (m k : Nat) (x : Int) (hk : k < m) : (zs A m).set k (G x) = zs (fun j => if j = k then x else A j) m := by
  refine List.ext_getElem? fun i => ?_
  by_cases hi : k = i
  · subst hi; rw [List.getElem?_set_self (by rw [zs_len]; exact hk), zs_at, if_pos hk, if_pos rfl]
  · rw [List.getElem?_set_ne hi, zs_at, zs_at]
    by_cases h2 : i < m
    · rw [if_pos h2, if_pos h2, if_neg (by omega)]
    · rw [if_neg h2, if_neg h2]
theorem zs_rep (m : Nat) : List.replicate m (G 0) = zs (fun _ => 0) m := by
  refine List.ext_getElem? fun i => ?_
  rw [zs_at, List.getElem?_replicate]

/-- The next numbers while m of the old ones are put in. -/
def cpN (o : Nat → Nat) (m k : Nat) : Nat := (if k < m then o k else 0) + (if 1 ≤ k ∧ k ≤ m then o (k - 1) else 0)
theorem cpN_0 (o : Nat → Nat) (k : Nat) : cpN o 0 k = 0 := by unfold cpN; rw [if_neg (by omega), if_neg (by omega)]
theorem cpN_end (A R : Nat → Int) (i k : Nat) : cpN (opn A R i) (i + 1) k = nx (opn A R i) k := by
  unfold cpN nx
  have h1 : (if k < i + 1 then opn A R i k else 0) = opn A R i k := by
    split
    · rfl
    · exact (opn_gt A R (by omega)).symm
  rw [h1]
  congr 1
  cases k with
  | zero => rfl
  | succ k =>
    show (if _ then opn A R i k else 0) = opn A R i k
    split
    · rfl
    · exact (opn_gt A R (by omega)).symm
theorem cpN_step (o : Nat → Nat) (m : Nat) : ∀ j, (if j = m + 1 then ((if m + 1 = m then (cpN o m m + o m) else cpN o m (m + 1)) + o m) else (if j = m then cpN o m m + o m else cpN o m j)) = cpN o (m + 1) j := by
  intro j
  have x1 : cpN o m (m + 1) = 0 := by unfold cpN; rw [if_neg (by omega), if_neg (by omega)]
  have hm : ¬ (m + 1 = m) := by omega
  rw [if_neg hm, x1]
  by_cases h1 : j = m + 1
  · subst h1; rw [if_pos rfl]; simp [cpN]
  · rw [if_neg h1]
    by_cases h2 : j = m
    · subst h2; rw [if_pos rfl]; unfold cpN
      split <;> split <;> split <;> split <;> omega
    · rw [if_neg h2]; unfold cpN
      split <;> split <;> split <;> split <;> omega
/-- The numbers while the first m of them are decided. -/
def dnN (A R : Nat → Int) (i m k : Nat) : Nat := if k < m then opn A R (i + 1) k else nx (opn A R i) k
theorem dnN_0 (A R : Nat → Int) (i k : Nat) : dnN A R i 0 k = nx (opn A R i) k := by unfold dnN; rw [if_neg (by omega)]
theorem dnN_at (A R : Nat → Int) (i m : Nat) : dnN A R i m m = nx (opn A R i) m := by unfold dnN; rw [if_neg (by omega)]
theorem dnN_end (A R : Nat → Int) (i k : Nat) : dnN A R i (i + 2) k = opn A R (i + 1) k := by
  unfold dnN
  split
  · rfl
  · rw [nx_gt A R (by omega), opn_gt A R (by omega)]
theorem dnN_keep (A R : Nat → Int) (i m : Nat) (h1 : ¬ (m : Int) ≤ A i) (h2 : ¬ R i ≤ m) (k : Nat) : dnN A R i (m + 1) k = dnN A R i m k := by
  unfold dnN
  by_cases h : k = m
  · subst h
    rw [if_pos (by omega), if_neg (by omega)]
    show (if (k : Int) ≤ A i then 0 else if R i ≤ k then 0 else nx (opn A R i) k) = _
    rw [if_neg h1, if_neg h2]
  · by_cases h3 : k < m
    · rw [if_pos h3, if_pos (by omega)]
    · rw [if_neg h3, if_neg (by omega)]
theorem dnN_put (A R : Nat → Int) (i m : Nat) (h : (m : Int) ≤ A i ∨ R i ≤ m) (k : Nat) : dnN A R i (m + 1) k = if k = m then 0 else dnN A R i m k := by
  unfold dnN
  by_cases h0 : k = m
  · subst h0
    rw [if_pos (by omega), if_pos rfl]
    show (if (k : Int) ≤ A i then 0 else if R i ≤ k then 0 else nx (opn A R i) k) = _
    by_cases h1 : (k : Int) ≤ A i
    · rw [if_pos h1]
    · rw [if_neg h1, if_pos (by omega)]
  · rw [if_neg h0]
    by_cases h3 : k < m
    · rw [if_pos h3, if_pos (by omega)]
    · rw [if_neg h3, if_neg (by omega)]

end Go.Proofs.Ytlkgpcfhpeilhaa.Ev
