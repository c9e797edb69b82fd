/-
  Plain laws behind SampleSure: when a plan accepts always, when never. No condition.
-/
import Derived.Test.YtlkgpcfhpeilhaaSVand
set_option linter.unusedVariables false
set_option linter.unusedSimpArgs false
namespace Go.Proofs.Ytlkgpcfhpeilhaa.Ev
open Go Go.AEv

theorem term_pos {lot bad n : Int} {k : Nat} (h0 : (k : Int) ≤ n) (h1 : (k : Int) ≤ bad) (h2 : bad - k ≤ lot - n) : 0 < ofZ n k * ofZ (lot - n) (bad - k) :=
  Nat.mul_pos (ofZ_pos (by omega) h0) (ofZ_pos (by omega) h2)

theorem acc_over {lot bad n : Int} (h2 : 0 ≤ bad) : ∀ j, acc lot bad n (bad.toNat + 1 + j) = acc lot bad n (bad.toNat + 1)
  | 0 => rfl
  | j + 1 => by
    have e : bad.toNat + 1 + (j + 1) = (bad.toNat + 1 + j) + 1 := by omega
    rw [e]
    simp only [acc]
    have hz : ofZ (lot - n) (bad - ((bad.toNat + 1 + j : Nat) : Int)) = 0 := by unfold ofZ; rw [if_neg (by omega)]
    rw [hz, Nat.mul_zero, Nat.add_zero]
    have := acc_over (lot := lot) (n := n) h2 j
    rw [this]
    simp only [acc]

theorem acc_one {lot bad n c : Int} (h1 : n ≤ lot) (h2 : 0 ≤ bad) (h3 : bad ≤ lot) (h4 : 0 ≤ c) (h5 : c < n) : acc lot bad n (c.toNat + 1) = ofZ lot bad ↔ bad ≤ c := by
  constructor
  · intro h
    by_cases hb : bad ≤ c
    · exact hb
    · exfalso
      rw [← acc_all (n := n) (by omega) h1 h2 h3, acc_sm, acc_sm] at h
      have := sm_lt (fun k => ofZ n k * ofZ (lot - n) (bad - k)) (m := c.toNat + 1) (n := bad.toNat + 1) (k := max (c.toNat + 1) (bad - (lot - n)).toNat) (by omega) (by omega) (term_pos (by omega) (by omega) (by omega))
      omega
  · intro h
    rw [← acc_all (n := n) (by omega) h1 h2 h3]
    obtain ⟨j, hj⟩ : ∃ j, c.toNat + 1 = bad.toNat + 1 + j := ⟨c.toNat - bad.toNat, by omega⟩
    rw [hj, acc_over h2]

theorem acc_none {lot bad n c : Int} (h1 : n ≤ lot) (h2 : 0 ≤ bad) (h3 : bad ≤ lot) (h4 : 0 ≤ c) (h5 : c < n) : acc lot bad n (c.toNat + 1) = 0 ↔ lot - n + c < bad := by
  constructor
  · intro h
    by_cases hb : lot - n + c < bad
    · exact hb
    · exfalso
      rw [acc_sm] at h
      have := sm_pos (fun k => ofZ n k * ofZ (lot - n) (bad - k)) (n := c.toNat + 1) (k := (bad - (lot - n)).toNat) (by omega) (term_pos (by omega) (by omega) (by omega))
      omega
  · intro h
    rw [acc_sm]
    apply sm_zero
    intro k hk
    have hz : ofZ (lot - n) (bad - (k : Int)) = 0 := by unfold ofZ; rw [if_neg (by omega)]
    rw [hz, Nat.mul_zero]

/-- A reduced fraction is 1/1 at equal numbers, and 0/1 at 0. -/
theorem fr_parts {a b : Nat} (hb : 0 < b) : ∃ g x y : Nat, 0 < g ∧ a = g * x ∧ b = g * y ∧ (a : Int) / (Nat.gcd a b : Int) = x ∧ (b : Int) / (Nat.gcd a b : Int) = y ∧ g = Nat.gcd a b := by
  have hg : 0 < Nat.gcd a b := Nat.gcd_pos_of_pos_right _ hb
  obtain ⟨x, hx⟩ := Nat.gcd_dvd_left a b
  obtain ⟨y, hy⟩ := Nat.gcd_dvd_right a b
  refine ⟨Nat.gcd a b, x, y, hg, hx, hy, ?_, ?_, rfl⟩
  · have : (a : Int) = (Nat.gcd a b : Int) * x := by rw [← Int.natCast_mul, ← hx]
    rw [show (a : Int) / (Nat.gcd a b : Int) = ((Nat.gcd a b : Int) * x) / (Nat.gcd a b : Int) from by rw [← this], Int.mul_ediv_cancel_left _ (by omega)]
  · have : (b : Int) = (Nat.gcd a b : Int) * y := by rw [← Int.natCast_mul, ← hy]
    rw [show (b : Int) / (Nat.gcd a b : Int) = ((Nat.gcd a b : Int) * y) / (Nat.gcd a b : Int) from by rw [← this], Int.mul_ediv_cancel_left _ (by omega)]

theorem fr_one {a b : Nat} (hb : 0 < b) : ((a : Int) / (Nat.gcd a b : Int) = 1 ∧ (b : Int) / (Nat.gcd a b : Int) = 1) ↔ a = b := by
  obtain ⟨g, x, y, hg, hx, hy, e1, e2, hgg⟩ := fr_parts (a := a) hb
  rw [e1, e2]
  constructor
  · rintro ⟨h1, h2⟩
    have h1 : x = 1 := by omega
    have h2 : y = 1 := by omega
    rw [hx, hy, h1, h2]
  · intro h
    subst h
    rw [Nat.gcd_self] at hgg
    subst hgg
    have h1 : x = 1 := Nat.eq_of_mul_eq_mul_left hg (by rw [Nat.mul_one]; exact hx.symm)
    have h2 : y = 1 := Nat.eq_of_mul_eq_mul_left hg (by rw [Nat.mul_one]; exact hy.symm)
    omega

theorem fr_zero {a b : Nat} (hb : 0 < b) : ((a : Int) / (Nat.gcd a b : Int) = 0 ∧ (b : Int) / (Nat.gcd a b : Int) = 1) ↔ a = 0 := by
  obtain ⟨g, x, y, hg, hx, hy, e1, e2, hgg⟩ := fr_parts (a := a) hb
  rw [e1, e2]
  constructor
  · rintro ⟨h1, h2⟩
    have h1 : x = 0 := by omega
    rw [hx, h1, Nat.mul_zero]
  · intro h
    subst h
    rw [Nat.gcd_zero_left] at hgg
    subst hgg
    have h2 : y = 1 := Nat.eq_of_mul_eq_mul_left hg (by rw [Nat.mul_one]; exact hy.symm)
    have h1 : x = 0 := by
      rcases Nat.mul_eq_zero.1 hx.symm with h | h
      · omega
      · exact h
    omega

end Go.Proofs.Ytlkgpcfhpeilhaa.Ev
