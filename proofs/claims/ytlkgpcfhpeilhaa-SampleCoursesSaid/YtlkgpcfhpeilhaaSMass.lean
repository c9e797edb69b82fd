/-
  The sums of a course: nothing is lost, and what is accepted in all. No condition.
-/
import Derived.Test.YtlkgpcfhpeilhaaSOpen
set_option linter.unusedVariables false
set_option linter.unusedSimpArgs false
namespace Go.Proofs.Ytlkgpcfhpeilhaa.Ev
open Go Go.AEv

theorem ofZ_pas (n k : Int) (hn : 1 ≤ n) : ofZ n k = ofZ (n - 1) k + ofZ (n - 1) (k - 1) := by
  unfold ofZ
  by_cases h0 : k < 0
  · rw [if_neg (by omega), if_neg (by omega), if_neg (by omega)]
  · by_cases h1 : k = 0
    · subst h1; rw [if_pos (by omega), if_pos (by omega), if_neg (by omega)]; simp [ch_zero]
    · by_cases h2 : k ≤ n
      · rw [if_pos (by omega), ch_step _ _ (by omega) (by omega)]
        rw [show (n - 1).toNat = n.toNat - 1 by omega, show (k - 1).toNat = k.toNat - 1 by omega]
        rw [if_pos (show 0 ≤ k - 1 ∧ k - 1 ≤ n - 1 by omega)]
        by_cases h3 : k ≤ n - 1
        · rw [if_pos (by omega)]; omega
        · rw [if_neg (by omega), ch_gt (n.toNat - 1) k.toNat (by omega)]; omega
      · rw [if_neg (by omega), if_neg (by omega), if_neg (by omega)]

theorem sm_nx (o V W : Nat → Nat) (i : Nat) (ho : o (i + 1) = 0) (hV : ∀ k, k ≤ i → V k = W k + W (k + 1)) : sm (fun k => o k * V k) (i + 1) = sm (fun k => nx o k * W k) (i + 2) := by
  have e1 : sm (fun k => nx o k * W k) (i + 2) = sm (fun k => o k * W k) (i + 2) + sm (fun k => prv o k * W k) (i + 2) := by
    rw [← sm_add]; exact sm_congr _ fun k _ => by unfold nx; rw [Nat.add_mul]
  have e2 : sm (fun k => prv o k * W k) (i + 2) = sm (fun k => o k * W (k + 1)) (i + 1) := by
    rw [sm_shift]; simp [prv]
  have e3 : sm (fun k => o k * W k) (i + 2) = sm (fun k => o k * W k) (i + 1) := by
    show sm (fun k => o k * W k) (i + 1) + o (i + 1) * W (i + 1) = _
    rw [ho]; simp
  rw [e1, e2, e3, ← sm_add]
  exact sm_congr _ fun k hk => by rw [hV k (by omega), Nat.mul_add]

section
variable {lot bad : Int} {A R : Nat → Int}
theorem yS_sm (i : Nat) : ∀ m, yS lot bad A R i m = sm (fun k => if (k : Int) ≤ A i then tk lot bad A R i k else 0) m
  | 0 => rfl
  | m + 1 => by simp only [yS, sm, yS_sm i m]
theorem nS_sm (i : Nat) : ∀ m, nS lot bad A R i m = sm (fun k => if (k : Int) ≤ A i then 0 else if R i ≤ k then tk lot bad A R i k else 0) m
  | 0 => rfl
  | m + 1 => by simp only [nS, sm, nS_sm i m]
/-- What is decided after i + 1 pieces, weighed. -/
theorem opn_split (W : Nat → Nat) (i : Nat) : ∀ m, sm (fun k => nx (opn A R i) k * W k) m = sm (fun k => if (k : Int) ≤ A i then nx (opn A R i) k * W k else 0) m + sm (fun k => if (k : Int) ≤ A i then 0 else if R i ≤ k then nx (opn A R i) k * W k else 0) m + sm (fun k => opn A R (i + 1) k * W k) m
  | 0 => rfl
  | m + 1 => by
    have h := opn_split W i m
    have e : opn A R (i + 1) m = if (m : Int) ≤ A i then 0 else if R i ≤ m then 0 else nx (opn A R i) m := rfl
    simp only [sm, e]
    by_cases h1 : (m : Int) ≤ A i
    · simp only [if_pos h1]; omega
    · simp only [if_neg h1]
      by_cases h2 : R i ≤ m
      · simp only [if_pos h2]; omega
      · simp only [if_neg h2]; omega

def tT (lot bad : Int) (A R : Nat → Int) : Nat → Nat
  | 0 => 0
  | i + 1 => tT lot bad A R i + (yC lot bad A R i + nC lot bad A R i)

/-- Nothing is lost. -/
theorem mass (n : Nat) (hn : (n : Int) ≤ lot) : ∀ i, i ≤ n → tT lot bad A R i + sm (fun k => opn A R i k * ofZ (lot - i) (bad - k)) (i + 1) = ofZ lot bad
  | 0, _ => by
    show 0 + (0 + (if (0 : Nat) = 0 then 1 else 0) * ofZ (lot - ((0 : Nat) : Int)) (bad - ((0 : Nat) : Int))) = _
    simp
  | i + 1, hi => by
    have h := mass n hn i (by omega)
    have e := sm_nx (opn A R i) (fun k => ofZ (lot - i) (bad - k)) (fun k => ofZ (lot - i - 1) (bad - k)) i (opn_gt A R (by omega)) (fun k _ => by
      rw [ofZ_pas _ _ (by omega)]; congr 2; omega)
    have s := opn_split (A := A) (R := R) (fun k => ofZ (lot - i - 1) (bad - k)) i (i + 2)
    rw [← e] at s
    have y : yC lot bad A R i = _ := yS_sm i (i + 2)
    have z : nC lot bad A R i = _ := nS_sm i (i + 2)
    unfold tk at y z
    show tT lot bad A R i + (yC lot bad A R i + nC lot bad A R i) + sm (fun k => opn A R (i + 1) k * ofZ (lot - ((i + 1 : Nat) : Int)) (bad - k)) (i + 2) = _
    rw [show lot - ((i + 1 : Nat) : Int) = lot - i - 1 by omega]
    omega

/-- What is accepted in all: V tells of each place how many ways from there are accepted. -/
theorem yT_gen (V : Nat → Nat → Nat) (n : Nat) (hV : ∀ i k, i < n → k ≤ i → V i k = V (i + 1) k + V (i + 1) (k + 1)) (hA : ∀ i k, i < n → k ≤ i + 1 → (k : Int) ≤ A i → V (i + 1) k = ofZ (lot - i - 1) (bad - k)) (hR : ∀ i k, i < n → k ≤ i + 1 → ¬ (k : Int) ≤ A i → R i ≤ k → V (i + 1) k = 0) :
    ∀ i, i ≤ n → yT lot bad A R i + sm (fun k => opn A R i k * V i k) (i + 1) = V 0 0
  | 0, _ => by
    show 0 + (0 + (if (0 : Nat) = 0 then 1 else 0) * V 0 0) = _
    simp
  | i + 1, hi => by
    have h := yT_gen V n hV hA hR i (by omega)
    have e := sm_nx (opn A R i) (V i) (V (i + 1)) i (opn_gt A R (by omega)) (fun k hk => hV i k (by omega) hk)
    have s := opn_split (A := A) (R := R) (V (i + 1)) i (i + 2)
    rw [← e] at s
    have y : yC lot bad A R i = _ := yS_sm i (i + 2)
    have z : sm (fun k => if (k : Int) ≤ A i then 0 else if R i ≤ k then nx (opn A R i) k * V (i + 1) k else 0) (i + 2) = 0 := sm_zero _ fun k hk => by
      split
      · rfl
      · split
        · rename_i h1 h2; rw [hR i k (by omega) (by omega) h1 h2, Nat.mul_zero]
        · rfl
    have y2 : sm (fun k => if (k : Int) ≤ A i then nx (opn A R i) k * V (i + 1) k else 0) (i + 2) = yC lot bad A R i := by
      rw [y]; refine sm_congr _ fun k hk => ?_
      split
      · rename_i h1; rw [hA i k (by omega) (by omega) h1]; rfl
      · rfl
    show yT lot bad A R i + yC lot bad A R i + sm (fun k => opn A R (i + 1) k * V (i + 1) k) (i + 2) = _
    omega

/-- After a last decision nothing is open. -/
theorem opn_last (i : Nat) (h : R i ≤ A i + 1) (k : Nat) : opn A R (i + 1) k = 0 := by
  show (if (k : Int) ≤ A i then 0 else if R i ≤ k then 0 else nx (opn A R i) k) = 0
  by_cases h1 : (k : Int) ≤ A i
  · rw [if_pos h1]
  · rw [if_neg h1, if_pos (by omega)]
theorem mass_all (n : Nat) (h1 : 1 ≤ n) (hn : (n : Int) ≤ lot) (h : R (n - 1) ≤ A (n - 1) + 1) : tT lot bad A R n = ofZ lot bad := by
  have m := mass (A := A) (R := R) (bad := bad) n hn n (Nat.le_refl _)
  have z : sm (fun k => opn A R n k * ofZ (lot - n) (bad - k)) (n + 1) = 0 := sm_zero _ fun k _ => by
    obtain ⟨j, rfl⟩ : ∃ j, n = j + 1 := ⟨n - 1, by omega⟩
    rw [opn_last j (by simpa using h) k, Nat.zero_mul]
  omega
theorem pT_tT : ∀ n, pT lot bad A R n ≤ n * tT lot bad A R n
  | 0 => by simp [pT]
  | i + 1 => by
    have h := pT_tT i
    show pT lot bad A R i + (i + 1) * (yC lot bad A R i + nC lot bad A R i) ≤ (i + 1) * (tT lot bad A R i + (yC lot bad A R i + nC lot bad A R i))
    rw [Nat.mul_add (i + 1) (tT lot bad A R i)]
    have : i * tT lot bad A R i ≤ (i + 1) * tT lot bad A R i := Nat.mul_le_mul_right _ (by omega)
    omega

/-! ### A single plan: ways to accept from each place -/
/-- From i pieces, k of them bad, to at most C - 1 of n bad ones. -/
def va (lot bad : Int) (n C : Nat) (i k : Nat) : Nat := sm (fun j => ofZ ((n : Int) - i) j * ofZ (lot - n) (bad - k - j)) (C - k)
theorem va_step (n C : Nat) (i k : Nat) (hi : i < n) : va lot bad n C i k = va lot bad n C (i + 1) k + va lot bad n C (i + 1) (k + 1) := by
  have e : va lot bad n C i k = sm (fun j => ofZ ((n : Int) - i - 1) j * ofZ (lot - n) (bad - k - j)) (C - k) + sm (fun j => ofZ ((n : Int) - i - 1) (j - 1) * ofZ (lot - n) (bad - k - j)) (C - k) := by
    unfold va
    rw [← sm_add]; exact sm_congr _ fun j _ => by rw [ofZ_pas _ _ (by omega), Nat.add_mul]
  rw [e]
  unfold va
  rw [show (n : Int) - ((i + 1 : Nat) : Int) = (n : Int) - i - 1 by omega]
  congr 1
  obtain ⟨m, hm⟩ : ∃ m, C - (k + 1) = m := ⟨_, rfl⟩
  rw [hm]
  by_cases h : C ≤ k
  · rw [show C - k = 0 by omega, show m = 0 by omega]; rfl
  · rw [show C - k = m + 1 by omega, sm_shift]
    have z : ofZ ((n : Int) - i - 1) (((0 : Nat) : Int) - 1) = 0 := by unfold ofZ; rw [if_neg (by omega)]
    rw [z, Nat.zero_mul, Nat.zero_add]
    exact sm_congr _ fun j _ => by congr 2 <;> omega
theorem va_out (n C i k : Nat) (h : C ≤ k) : va lot bad n C i k = 0 := by unfold va; rw [show C - k = 0 by omega]; rfl
theorem acc_past (lot bad n : Int) (k : Nat) (h : n < k) : ∀ j, acc lot bad n (k + j) = acc lot bad n k
  | 0 => rfl
  | j + 1 => by
    rw [← Nat.add_assoc, acc, acc_past lot bad n k h j]
    have : ofZ n ((k + j : Nat) : Int) = 0 := by unfold ofZ; rw [if_neg (by omega)]
    rw [this]; simp
theorem acc_full {lot bad n : Int} (h0 : 0 ≤ n) (h1 : n ≤ lot) (h2 : 0 ≤ bad) (h3 : bad ≤ lot) : acc lot bad n (n.toNat + 1) = ofZ lot bad := by
  rw [← acc_all h0 h1 h2 h3]
  by_cases h : bad ≤ n
  · obtain ⟨j, hj⟩ : ∃ j, n.toNat + 1 = bad.toNat + 1 + j := ⟨n.toNat - bad.toNat, by omega⟩
    rw [hj, acc_over h2]
  · obtain ⟨j, hj⟩ : ∃ j, bad.toNat + 1 = n.toNat + 1 + j := ⟨bad.toNat - n.toNat, by omega⟩
    rw [hj]; exact (acc_past lot bad n (n.toNat + 1) (by omega) j).symm
theorem va_in (n C i k : Nat) (hi : i ≤ n) (hn : (n : Int) ≤ lot) (h : n + k < C + i) : va lot bad n C i k = ofZ (lot - i) (bad - k) := by
  obtain ⟨q, hq⟩ : ∃ q : Int, bad - k = q := ⟨_, rfl⟩
  unfold va
  rw [hq]
  by_cases h0 : q < 0
  · rw [sm_zero _ fun j _ => by rw [show ofZ (lot - n) (q - j) = 0 by unfold ofZ; rw [if_neg (by omega)]]; exact Nat.mul_zero _]
    unfold ofZ; rw [if_neg (by omega)]
  · by_cases h1 : lot - i < q
    · rw [sm_zero _ fun j _ => by
        by_cases hj : (j : Int) ≤ n - i
        · rw [show ofZ (lot - n) (q - j) = 0 by unfold ofZ; rw [if_neg (by omega)]]; exact Nat.mul_zero _
        · rw [show ofZ ((n : Int) - i) j = 0 by unfold ofZ; rw [if_neg (by omega)]]; exact Nat.zero_mul _]
      unfold ofZ; rw [if_neg (by omega)]
    · have f := acc_full (lot := lot - i) (bad := q) (n := (n : Int) - i) (by omega) (by omega) (by omega) (by omega)
      rw [← f]
      obtain ⟨j, hj⟩ : ∃ j, C - k = ((n : Int) - i).toNat + 1 + j := ⟨C - k - (n - i) - 1, by omega⟩
      rw [hj]
      have p := acc_past (lot - i) q ((n : Int) - i) (((n : Int) - i).toNat + 1) (by omega) j
      rw [← p, acc_sm]
      exact sm_congr _ fun x _ => by rw [show lot - i - ((n : Int) - i) = lot - n by omega]
theorem va_0 (n C : Nat) : va lot bad n C 0 0 = acc lot bad n C := by
  rw [acc_sm]; unfold va
  exact sm_congr _ fun j _ => by simp

/-- A course that accepts as a single plan does. -/
theorem yT_single (n C : Nat) (h1 : 1 ≤ n) (hn : (n : Int) ≤ lot) (hA : ∀ i k : Nat, i < n → k ≤ i + 1 → (k : Int) ≤ A i → n + k < C + i + 1) (hR : ∀ i k : Nat, i < n → k ≤ i + 1 → R i ≤ k → C ≤ k) (hl : R (n - 1) ≤ A (n - 1) + 1) :
    yT lot bad A R n = acc lot bad n C := by
  have g := yT_gen (lot := lot) (bad := bad) (A := A) (R := R) (va lot bad n C) n (fun i k hi _ => va_step n C i k hi) (fun i k hi hk h => by
    rw [va_in n C (i + 1) k (by omega) hn (by have := hA i k hi hk h; omega)]; congr 1; omega) (fun i k hi hk _ h => va_out n C (i + 1) k (hR i k hi hk h)) n (Nat.le_refl _)
  have z : sm (fun k => opn A R n k * va lot bad n C n k) (n + 1) = 0 := sm_zero _ fun k _ => by
    obtain ⟨j, rfl⟩ : ∃ j, n = j + 1 := ⟨n - 1, by omega⟩
    rw [opn_last j (by simpa using hl) k, Nat.zero_mul]
  rw [va_0] at g
  omega
end

end Go.Proofs.Ytlkgpcfhpeilhaa.Ev
