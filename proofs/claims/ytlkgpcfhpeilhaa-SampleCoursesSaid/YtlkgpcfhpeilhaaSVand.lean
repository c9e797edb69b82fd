/-
  Plain laws of how many ways there are to choose: Vandermonde's sum. No condition.
-/
import Derived.Test.YtlkgpcfhpeilhaaSSingles
set_option linter.unusedVariables false
set_option linter.unusedSimpArgs false
namespace Go.Proofs.Ytlkgpcfhpeilhaa.Ev
open Go Go.AEv

def sm (f : Nat → Nat) : Nat → Nat
  | 0 => 0
  | m + 1 => sm f m + f m

theorem sm_shift (f : Nat → Nat) : ∀ m, sm f (m + 1) = f 0 + sm (fun k => f (k + 1)) m
  | 0 => by simp [sm]
  | m + 1 => by
    have := sm_shift f m
    simp only [sm] at this ⊢
    omega
theorem sm_add (f g : Nat → Nat) : ∀ m, sm (fun k => f k + g k) m = sm f m + sm g m
  | 0 => rfl
  | m + 1 => by simp only [sm, sm_add f g m]; omega
theorem sm_congr {f g : Nat → Nat} : ∀ m, (∀ k, k < m → f k = g k) → sm f m = sm g m
  | 0, _ => rfl
  | m + 1, h => by simp only [sm, sm_congr m (fun k hk => h k (by omega)), h m (by omega)]
theorem sm_zero {f : Nat → Nat} (m : Nat) (h : ∀ k, k < m → f k = 0) : sm f m = 0 := by
  rw [sm_congr m h]
  induction m with
  | zero => rfl
  | succ m ih => simp only [sm, ih (fun k hk => h k (by omega))]

theorem vand : ∀ (a b d : Nat), sm (fun k => ch a k * ch b (d - k)) (d + 1) = ch (a + b) d
  | 0, b, d => by
    rw [sm_shift, sm_zero d (fun k _ => by simp [ch])]
    simp [ch_zero]
  | a + 1, b, 0 => by simp [sm, ch_zero]
  | a + 1, b, d + 1 => by
    have h1 := vand a b (d + 1)
    have h2 := vand a b d
    rw [sm_shift] at h1 ⊢
    have e : sm (fun k => ch (a + 1) (k + 1) * ch b (d + 1 - (k + 1))) (d + 1) = sm (fun k => ch a k * ch b (d - k)) (d + 1) + sm (fun k => ch a (k + 1) * ch b (d + 1 - (k + 1))) (d + 1) := by
      rw [← sm_add]
      apply sm_congr
      intro k hk
      have : d + 1 - (k + 1) = d - k := by omega
      rw [this, ch, Nat.add_mul]
    rw [e, h2]
    have e2 : a + 1 + b = (a + b) + 1 := by omega
    have e3 : ch (a + b + 1) (d + 1) = ch (a + b) d + ch (a + b) (d + 1) := rfl
    rw [e2, e3, ← h1]
    simp only [ch_zero]
    omega


/-- What a sum lacks when it stops early. -/
theorem sm_le (f : Nat → Nat) : ∀ (j m : Nat), sm f m ≤ sm f (m + j)
  | 0, m => Nat.le_refl _
  | j + 1, m => by
    have := sm_le f j m
    show sm f m ≤ sm f (m + j) + f (m + j)
    omega
theorem sm_lt (f : Nat → Nat) {m n k : Nat} (h1 : m ≤ k) (h2 : k < n) (h3 : 0 < f k) : sm f m < sm f n := by
  have a := sm_le f (k - m) m
  have b := sm_le f (n - (k + 1)) (k + 1)
  have e1 : m + (k - m) = k := by omega
  have e2 : k + 1 + (n - (k + 1)) = n := by omega
  rw [e1] at a; rw [e2] at b
  simp only [sm] at b
  omega
theorem sm_pos (f : Nat → Nat) {n k : Nat} (h2 : k < n) (h3 : 0 < f k) : 0 < sm f n := by
  have := sm_lt f (Nat.zero_le k) h2 h3
  simpa [sm] using this

theorem acc_sm (lot bad n : Int) : ∀ m, acc lot bad n m = sm (fun k => ofZ n k * ofZ (lot - n) (bad - k)) m
  | 0 => rfl
  | m + 1 => by simp only [acc, sm, acc_sm lot bad n m]

/-- All the ways to place the bad pieces. -/
theorem acc_all {lot bad n : Int} (h0 : 0 ≤ n) (h1 : n ≤ lot) (h2 : 0 ≤ bad) (h3 : bad ≤ lot) : acc lot bad n (bad.toNat + 1) = ofZ lot bad := by
  rw [acc_sm]
  have hv := vand n.toNat (lot - n).toNat bad.toNat
  have e : n.toNat + (lot - n).toNat = lot.toNat := by omega
  rw [e] at hv
  have hz : ofZ lot bad = ch lot.toNat bad.toNat := by unfold ofZ; rw [if_pos ⟨h2, h3⟩]
  rw [hz, ← hv]
  apply sm_congr
  intro k hk
  have key : ∀ (a : Int) (b : Nat), 0 ≤ a → ofZ a b = ch a.toNat b := by
    intro a b ha
    unfold ofZ
    split
    · simp
    · rw [ch_gt _ _ (by omega)]
  have e2 : bad - (k : Int) = ((bad.toNat - k : Nat) : Int) := by omega
  rw [e2, key n k h0, key (lot - n) (bad.toNat - k) (by omega)]

end Go.Proofs.Ytlkgpcfhpeilhaa.Ev
