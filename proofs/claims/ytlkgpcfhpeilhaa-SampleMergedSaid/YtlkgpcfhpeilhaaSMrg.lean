/-
  The sums of the course of a double plan are those of the plan. No condition.
-/
import Derived.Test.YtlkgpcfhpeilhaaSMass
import Derived.Test.YtlkgpcfhpeilhaaSMerge
set_option linter.unusedVariables false
set_option linter.unusedSimpArgs false
namespace Go.Proofs.Ytlkgpcfhpeilhaa.Ev
open Go Go.AEv

theorem sm_cat (f : Nat → Nat) (a : Nat) : ∀ b, sm f (a + b) = sm f a + sm (fun i => f (a + i)) b
  | 0 => rfl
  | b + 1 => by
    show sm f (a + b) + f (a + b) = sm f a + (sm (fun i => f (a + i)) b + f (a + b))
    rw [sm_cat f a b]; omega
theorem sm_mul (c : Nat) (f : Nat → Nat) : ∀ m, sm (fun k => c * f k) m = c * sm f m
  | 0 => rfl
  | m + 1 => by
    show sm (fun k => c * f k) m + c * f m = c * (sm f m + f m)
    rw [sm_mul c f m, Nat.mul_add]

section
variable {lot bad : Int} {A R : Nat → Int}
theorem yT_from (V : Nat → Nat → Nat) (n i0 : Nat) (hV : ∀ i k, i0 ≤ i → i < n → k ≤ i → V i k = V (i + 1) k + V (i + 1) (k + 1)) (hA : ∀ i k, i0 ≤ i → i < n → k ≤ i + 1 → (k : Int) ≤ A i → V (i + 1) k = ofZ (lot - i - 1) (bad - k)) (hR : ∀ i k, i0 ≤ i → i < n → k ≤ i + 1 → ¬ (k : Int) ≤ A i → R i ≤ k → V (i + 1) k = 0) :
    ∀ j, i0 + j ≤ n → yT lot bad A R (i0 + j) + sm (fun k => opn A R (i0 + j) k * V (i0 + j) k) (i0 + j + 1) = yT lot bad A R i0 + sm (fun k => opn A R i0 k * V i0 k) (i0 + 1)
  | 0, _ => rfl
  | j + 1, hj => by
    have h := yT_from V n i0 hV hA hR j (by omega)
    obtain ⟨i, hi⟩ : ∃ i, i0 + j = i := ⟨_, rfl⟩
    rw [hi] at h
    rw [← Nat.add_assoc, hi]
    have e := sm_nx (opn A R i) (V i) (V (i + 1)) i (opn_gt A R (by omega)) (fun k hk => hV i k (by omega) (by omega) hk)
    have s := opn_split (A := A) (R := R) (V (i + 1)) i (i + 2)
    rw [← e] at s
    have y : yC lot bad A R i = _ := yS_sm i (i + 2)
    have z : sm (fun k => if (k : Int) ≤ A i then 0 else if R i ≤ k then nx (opn A R i) k * V (i + 1) k else 0) (i + 2) = 0 := sm_zero _ fun k hk => by
      split
      · rfl
      · split
        · rename_i h1 h2; rw [hR i k (by omega) (by omega) (by omega) h1 h2, Nat.mul_zero]
        · rfl
    have y2 : sm (fun k => if (k : Int) ≤ A i then nx (opn A R i) k * V (i + 1) k else 0) (i + 2) = yC lot bad A R i := by
      rw [y]; refine sm_congr _ fun k hk => ?_
      split
      · rename_i h1; rw [hA i k (by omega) (by omega) (by omega) h1]; rfl
      · rfl
    show yT lot bad A R i + yC lot bad A R i + sm (fun k => opn A R (i + 1) k * V (i + 1) k) (i + 2) = _
    omega

theorem yT_tT : ∀ n, yT lot bad A R n ≤ tT lot bad A R n
  | 0 => Nat.le_refl _
  | i + 1 => by
    have h := yT_tT i
    show yT lot bad A R i + yC lot bad A R i ≤ tT lot bad A R i + (yC lot bad A R i + nC lot bad A R i)
    omega
/-- A place without a decision. -/
theorem none_y (i : Nat) (hA : A i < 0) (hR : (i : Int) + 1 < R i) : yC lot bad A R i = 0 ∧ nC lot bad A R i = 0 := by
  refine ⟨?_, ?_⟩
  · show yS lot bad A R i (i + 2) = 0
    rw [yS_sm]; exact sm_zero _ fun k hk => by rw [if_neg (by omega)]
  · show nS lot bad A R i (i + 2) = 0
    rw [nS_sm]; exact sm_zero _ fun k hk => by rw [if_neg (by omega), if_neg (by omega)]
theorem none_opn (i : Nat) (hA : A i < 0) (hR : (i : Int) + 1 < R i) (k : Nat) : opn A R (i + 1) k = nx (opn A R i) k := by
  show (if (k : Int) ≤ A i then 0 else if R i ≤ k then 0 else nx (opn A R i) k) = _
  rw [if_neg (by omega)]
  split
  · rw [nx_gt A R (by omega)]
  · rfl
theorem nx_ch (i k : Nat) : nx (ch i) k = ch (i + 1) k := by
  cases k with
  | zero => simp [nx, prv, ch_zero]
  | succ k => show ch i (k + 1) + ch i k = ch i k + ch i (k + 1); omega
theorem opn_free : ∀ i, (∀ j, j < i → A j < 0 ∧ (j : Int) + 1 < R j) → opn A R i = ch i
  | 0, _ => by
    funext k
    show (if k = 0 then 1 else 0) = _
    cases k <;> simp [ch]
  | i + 1, h => by
    funext k
    rw [none_opn i (h i (by omega)).1 (h i (by omega)).2, opn_free i fun j hj => h j (by omega), nx_ch]
theorem yT_none (i : Nat) : ∀ j, (∀ l, i ≤ l → l < i + j → A l < 0 ∧ (l : Int) + 1 < R l) → yT lot bad A R (i + j) = yT lot bad A R i ∧ pT lot bad A R (i + j) = pT lot bad A R i ∧ tT lot bad A R (i + j) = tT lot bad A R i
  | 0, _ => ⟨rfl, rfl, rfl⟩
  | j + 1, h => by
    obtain ⟨a, b, c⟩ := yT_none i j fun l h1 h2 => h l h1 (by omega)
    obtain ⟨p, q⟩ := none_y (lot := lot) (bad := bad) (A := A) (R := R) (i + j) (h _ (by omega) (by omega)).1 (h _ (by omega) (by omega)).2
    refine ⟨?_, ?_, ?_⟩
    · show yT lot bad A R (i + j) + yC lot bad A R (i + j) = _
      rw [a, p, Nat.add_zero]
    · show pT lot bad A R (i + j) + (i + j + 1) * (yC lot bad A R (i + j) + nC lot bad A R (i + j)) = _
      rw [b, p, q]; simp
    · show tT lot bad A R (i + j) + (yC lot bad A R (i + j) + nC lot bad A R (i + j)) = _
      rw [c, p, q]; simp

/-! ### The course of a double plan -/
structure DC (lot : Int) (A R : Nat → Int) (n m : Nat) (c r d : Int) : Prop where
  h1 : 1 ≤ n
  h2 : 1 ≤ m
  h3 : (n : Int) + m ≤ lot
  h4 : 0 ≤ c ∧ c + 2 ≤ r ∧ r ≤ n + 1
  h5 : r - 1 ≤ d ∧ d ≤ n + m - 1
  a1 : ∀ i : Nat, i + 1 < n → A i < 0 ∧ (i : Int) + 1 < R i
  a2 : A (n - 1) = c ∧ R (n - 1) = r
  a3 : ∀ i : Nat, n ≤ i → i + 1 < n + m → A i < 0 ∧ (i : Int) + 1 < R i
  a4 : A (n + m - 1) = d ∧ R (n + m - 1) = d + 1
variable {n m : Nat} {c r d : Int}
theorem dc_opn (D : DC lot A R n m c r d) (k : Nat) : opn A R n k = if c < k ∧ (k : Int) < r then ch n k else 0 := by
  obtain ⟨h1, h2, h3, h4, h5, a1, a2, a3, a4⟩ := D
  obtain ⟨i, rfl⟩ : ∃ i, n = i + 1 := ⟨n - 1, by omega⟩
  show (if (k : Int) ≤ A i then 0 else if R i ≤ k then 0 else nx (opn A R i) k) = _
  rw [opn_free i fun j hj => a1 j (by omega), nx_ch]
  simp only [Nat.add_sub_cancel] at a2
  rw [a2.1, a2.2]
  by_cases x : (k : Int) ≤ c
  · rw [if_pos x, if_neg (by omega)]
  · rw [if_neg x]
    by_cases y : r ≤ k
    · rw [if_pos y, if_neg (by omega)]
    · rw [if_neg y, if_pos (by omega)]
/-- What is open after the first sample, weighed. -/
theorem dc_sum (D : DC lot A R n m c r d) (W : Nat → Nat) : sm (fun k => opn A R n k * W k) (n + 1) = sm (fun i => ofZ n (c.toNat + 1 + i : Nat) * W (c.toNat + 1 + i)) (r - c - 1).toNat := by
  have h4 := D.h4
  obtain ⟨x, hx⟩ : ∃ x, n + 1 = c.toNat + 1 + (r - c - 1).toNat + x := ⟨n + 1 - (c.toNat + 1 + (r - c - 1).toNat), by omega⟩
  rw [hx, sm_cat, sm_cat]
  rw [sm_zero (c.toNat + 1) fun k hk => by rw [dc_opn D, if_neg (by omega), Nat.zero_mul]]
  rw [sm_zero x fun k hk => by rw [dc_opn D, if_neg (by omega), Nat.zero_mul]]
  rw [Nat.zero_add, Nat.add_zero]
  refine sm_congr _ fun i hi => ?_
  rw [dc_opn D, if_pos (by omega)]
  unfold ofZ
  rw [if_pos (by omega), Int.toNat_natCast, Int.toNat_natCast]

theorem dc_y (D : DC lot A R n m c r d) : yT lot bad A R (n + m) = acc lot bad n (c.toNat + 1) + sm (fun i => ofZ n (c.toNat + 1 + i : Nat) * va lot bad (n + m) (d.toNat + 1) n (c.toNat + 1 + i)) (r - c - 1).toNat := by
  obtain ⟨h1, h2, h3, h4, h5, a1, a2, a3, a4⟩ := id D
  have p1 := yT_gen (lot := lot) (bad := bad) (A := A) (R := R) (va lot bad n (c.toNat + 1)) n (fun i k hi _ => va_step n _ i k hi) (fun i k hi hk h => by
      by_cases x : i + 1 < n
      · have := a1 i x; omega
      · obtain rfl : i = n - 1 := by omega
        rw [a2.1] at h
        rw [va_in n _ (n - 1 + 1) k (by omega) (by omega) (by omega)]; congr 1; omega)
    (fun i k hi hk h h' => by
      by_cases x : i + 1 < n
      · have := a1 i x; omega
      · obtain rfl : i = n - 1 := by omega
        rw [a2.2] at h'
        exact va_out n _ _ k (by omega)) n (Nat.le_refl _)
  rw [va_0, sm_zero _ fun k hk => by
    rw [dc_opn D]
    split
    · rw [va_out n _ _ k (by omega), Nat.mul_zero]
    · exact Nat.zero_mul _] at p1
  have p2 := yT_from (lot := lot) (bad := bad) (A := A) (R := R) (va lot bad (n + m) (d.toNat + 1)) (n + m) n (fun i k _ hi _ => va_step (n + m) _ i k hi) (fun i k hi0 hi hk h => by
      by_cases x : i + 1 < n + m
      · have := a3 i hi0 x; omega
      · obtain rfl : i = n + m - 1 := by omega
        rw [a4.1] at h
        rw [va_in (n + m) _ (n + m - 1 + 1) k (by omega) (by omega) (by omega)]; congr 1; omega)
    (fun i k hi0 hi hk h h' => by
      by_cases x : i + 1 < n + m
      · have := a3 i hi0 x; omega
      · obtain rfl : i = n + m - 1 := by omega
        rw [a4.2] at h'
        exact va_out (n + m) _ _ k (by omega)) m (Nat.le_refl _)
  rw [dc_sum D] at p2
  have z : sm (fun k => opn A R (n + m) k * va lot bad (n + m) (d.toNat + 1) (n + m) k) (n + m + 1) = 0 := sm_zero _ fun k _ => by
    obtain ⟨j, hj⟩ : ∃ j, n + m = j + 1 := ⟨n + m - 1, by omega⟩
    rw [show opn A R (n + m) k = 0 by
      rw [hj]
      exact opn_last j (by rw [show j = n + m - 1 by omega, a4.1, a4.2]; omega) k, Nat.zero_mul]
  omega

theorem sec_sm (lot bad : Int) (n : Int) (c : Int) : ∀ i, sec lot bad n c i = sm (fun i => tm lot bad n (c.toNat + 1 + i)) i
  | 0 => rfl
  | i + 1 => by simp only [sec, sm, sec_sm lot bad n c i]
theorem inn_sm (lot bad : Int) (n m : Int) (k : Nat) : ∀ j, inn lot bad n m k j = ofZ n k * sm (fun j => ofZ m j * ofZ (lot - n - m) (bad - k - j)) j
  | 0 => rfl
  | j + 1 => by simp only [inn, sm, inn_sm lot bad n m k j, Nat.mul_add, Nat.mul_assoc]
theorem snd_sm (lot bad : Int) (n c m d : Int) : ∀ i, snd lot bad n c m d i = sm (fun i => inn lot bad n m (c.toNat + 1 + i) (d - (c.toNat + 1 + i : Nat) + 1).toNat) i
  | 0 => rfl
  | i + 1 => by simp only [snd, sm, snd_sm lot bad n c m d i]

theorem dc_dbl (D : DC lot A R n m c r d) : yT lot bad A R (n + m) = dblA lot bad n c r m d := by
  rw [dc_y D]
  unfold dblA
  rw [snd_sm]
  congr 1
  refine sm_congr _ fun i hi => ?_
  have h4 := D.h4
  have h5 := D.h5
  rw [inn_sm]
  unfold va
  rw [show (d - (c.toNat + 1 + i : Nat) + 1).toNat = d.toNat + 1 - (c.toNat + 1 + i) by omega]
  congr 1
  refine sm_congr _ fun j hj => ?_
  congr 2 <;> omega

theorem dc_p (h2 : 0 ≤ bad) (h3 : bad ≤ lot) (D : DC lot A R n m c r d) : (pT lot bad A R (n + m) : Int) = dblP lot bad n c r m d ∧ sec lot bad n c (r - c - 1).toNat ≤ ofZ lot bad ∧ yT lot bad A R (n + m) ≤ ofZ lot bad := by
  obtain ⟨i, rfl⟩ : ∃ i, n = i + 1 := ⟨n - 1, by have := D.h1; omega⟩
  obtain ⟨j, rfl⟩ : ∃ j, m = j + 1 := ⟨m - 1, by have := D.h2; omega⟩
  have hs := dc_sum D (fun k => ofZ (lot - (i + 1 : Nat)) (bad - k))
  have hm := mass (A := A) (R := R) (bad := bad) (lot := lot) (i + 1) (by have := D.h3; omega) (i + 1) (Nat.le_refl _)
  rw [hs] at hm
  have e : sm (fun l => ofZ ((i + 1 : Nat) : Int) (c.toNat + 1 + l : Nat) * ofZ (lot - (i + 1 : Nat)) (bad - (c.toNat + 1 + l : Nat))) (r - c - 1).toNat = sec lot bad (i + 1 : Nat) c (r - c - 1).toNat := (sec_sm _ _ _ _ _).symm
  rw [e] at hm
  obtain ⟨h1, h2', h3', h4, h5, a1, a2, a3, a4⟩ := id D
  have ma := mass_all (A := A) (R := R) (bad := bad) (lot := lot) (i + 1 + (j + 1)) (by omega) (by omega) (by rw [a4.1, a4.2]; omega)
  obtain ⟨b1, b2, b3⟩ := yT_none (lot := lot) (bad := bad) (A := A) (R := R) 0 i fun l _ hl => a1 l (by omega)
  obtain ⟨c1, c2, c3⟩ := yT_none (lot := lot) (bad := bad) (A := A) (R := R) (i + 1) j fun l hl hl' => a3 l hl (by omega)
  rw [Nat.zero_add] at b1 b2 b3
  have d1 : pT lot bad A R (i + 1) = pT lot bad A R i + (i + 1) * (yC lot bad A R i + nC lot bad A R i) := rfl
  have d2 : tT lot bad A R (i + 1) = tT lot bad A R i + (yC lot bad A R i + nC lot bad A R i) := rfl
  have d3 : pT lot bad A R (i + 1 + j + 1) = pT lot bad A R (i + 1 + j) + (i + 1 + j + 1) * (yC lot bad A R (i + 1 + j) + nC lot bad A R (i + 1 + j)) := rfl
  have d4 : tT lot bad A R (i + 1 + j + 1) = tT lot bad A R (i + 1 + j) + (yC lot bad A R (i + 1 + j) + nC lot bad A R (i + 1 + j)) := rfl
  have z1 : pT lot bad A R 0 = 0 := rfl
  have z2 : tT lot bad A R 0 = 0 := rfl
  rw [← Nat.add_assoc] at ma ⊢
  rw [z1] at b2
  rw [z2] at b3
  unfold dblP
  generalize yC lot bad A R i + nC lot bad A R i = X at *
  generalize yC lot bad A R (i + 1 + j) + nC lot bad A R (i + 1 + j) = Y at *
  generalize sec lot bad ((i + 1 : Nat) : Int) c (r - c - 1).toNat = S at *
  have hy : yT lot bad A R (i + 1 + j + 1) ≤ tT lot bad A R (i + 1 + j + 1) := yT_tT _
  refine ⟨?_, by omega, by omega⟩
  have f1 : pT lot bad A R (i + 1 + j + 1) = (i + 1) * X + (i + 1 + j + 1) * Y := by rw [d3, c2, d1, b2, Nat.zero_add]
  have f2 : X = ofZ lot bad - S := by omega
  have f3 : Y = S := by omega
  have f4 : ofZ lot bad = X + S := by omega
  rw [f1, f3, f4]
  have f5 : (i + 1) * X + (i + 1 + j + 1) * S = (i + 1) * (X + S) + (j + 1) * S := by
    rw [Nat.mul_add, Nat.add_assoc (i + 1) j 1, Nat.add_mul (i + 1) (j + 1)]; omega
  rw [f5, Int.natCast_add, Int.natCast_mul, Int.natCast_mul]
end

end Go.Proofs.Ytlkgpcfhpeilhaa.Ev
