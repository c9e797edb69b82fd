/-
  What walk answers. No condition.
-/
import Derived.Test.YtjeemgaoonapgaaRCls
set_option linter.unusedVariables false
set_option linter.unusedSimpArgs false
namespace Go.Proofs.Ytjeemgaoonapgaa.Ev
open Go Go.AEv

attribute [local simp] evFunc initS evOps_c evTrim_c evSkip_c evExit_c evRet_c evSeq_c evCond_c evBlock_c evDraw_c runOps_n runOps_c exec_n exec_g pure1_c act AOpd.ev T.get T.set T.put evBin evUn forceT_eq forceV_eq forceL_eq evRess evRes one keep runFP_n runFP_c app_none AV.flats AV.flat came_some List.getElem?_cons_zero List.getElem?_cons_succ beqT wrapI idxI tdivI tmodI decT decF ibT ibF inT inF evScope_c if_pos if_neg Cm_some thenW_n thenW_e thenW_r blkW_n blkW_e blkW_r goI kn putAt AV.cells fillA loadA takeA mk Eff.isAll Eff.isNone Eff.commutes Eff.spares okPair apart eqAgg fits LK.fits allEq aveq eqk mmA

/-! ### The plain values -/
/-- Does one of the first numbers come after u, and have c? -/
def pv (M : List (List Int)) (c : Nat → Bool) (u : Nat) : Nat → Bool
  | 0 => false
  | v + 1 => pv M c u v || (decide (0 < ent M u v) && c v)
/-- Is there a walk of so many steps from u to j? -/
def cw (M : List (List Int)) (j : Nat) : Nat → Nat → Bool
  | 0, u => decide (u = j)
  | s + 1, u => pv M (cw M j s) u M.length
/-- The first number with g, from v on. -/
def fva (g : Nat → Bool) : Nat → Nat → Nat
  | 0, v => v
  | m + 1, v => if g v then v else fva g m (v + 1)
def nxW (M : List (List Int)) (j t u : Nat) : Nat := fva (fun v => decide (0 < ent M u v) && cw M j t v) M.length 0
def wlk (M : List (List Int)) (j : Nat) : Nat → Nat → List Int
  | 0, _ => []
  | t + 1, u => (nxW M j t u : Int) :: wlk M j t (nxW M j t u)
theorem fva_ok (g : Nat → Bool) : ∀ m v w, v ≤ w → w < v + m → g w = true → v ≤ fva g m v ∧ fva g m v ≤ w ∧ g (fva g m v) = true ∧ ∀ z, v ≤ z → z < fva g m v → g z = false
  | 0, v, w, h1, h2, _ => by omega
  | m + 1, v, w, h1, h2, hg => by
    show v ≤ (if g v then v else fva g m (v + 1)) ∧ (if g v then v else fva g m (v + 1)) ≤ w ∧ g (if g v then v else fva g m (v + 1)) = true ∧ ∀ z, v ≤ z → z < (if g v then v else fva g m (v + 1)) → g z = false
    by_cases c : g v = true
    · rw [if_pos c]; exact ⟨Nat.le_refl _, h1, c, fun z a b => by omega⟩
    · rw [if_neg c]
      have hvw : v ≠ w := fun e => c (e ▸ hg)
      obtain ⟨a1, a2, a3, a4⟩ := fva_ok g m (v + 1) w (by omega) (by omega) hg
      refine ⟨by omega, a2, a3, fun z b1 b2 => ?_⟩
      by_cases e : z = v
      · subst e; simpa using c
      · exact a4 z (by omega) b2
section
variable {M : List (List Int)}
theorem pv_ex {c : Nat → Bool} {u : Nat} : ∀ {n}, pv M c u n = true ↔ ∃ v, v < n ∧ 0 < ent M u v ∧ c v = true
  | 0 => by simp [pv]
  | n + 1 => by
    show (pv M c u n || (decide (0 < ent M u n) && c n)) = true ↔ _
    rw [Bool.or_eq_true, pv_ex (n := n), Bool.and_eq_true, decide_eq_true_eq]
    constructor
    · rintro (⟨v, a, b⟩ | b)
      · exact ⟨v, by omega, b⟩
      · exact ⟨n, by omega, b⟩
    · rintro ⟨v, a, b⟩
      by_cases e : v = n
      · subst e; exact .inr b
      · exact .inl ⟨v, by omega, b⟩
theorem nxW_ok {j t u : Nat} (h : cw M j (t + 1) u = true) : nxW M j t u < M.length ∧ 0 < ent M u (nxW M j t u) ∧ cw M j t (nxW M j t u) = true ∧ ∀ z, z < nxW M j t u → ¬ (0 < ent M u z ∧ cw M j t z = true) := by
  obtain ⟨w, a, b, c⟩ := pv_ex.1 (show pv M (cw M j t) u M.length = true from h)
  obtain ⟨q1, q2, q3, q4⟩ := fva_ok (fun v => decide (0 < ent M u v) && cw M j t v) M.length 0 w (by omega) (by omega) (by simp [b, c])
  have q3' : (decide (0 < ent M u (nxW M j t u)) && cw M j t (nxW M j t u)) = true := q3
  rw [Bool.and_eq_true, decide_eq_true_eq] at q3'
  refine ⟨Nat.lt_of_le_of_lt q2 a, q3'.1, q3'.2, fun z hz => ?_⟩
  have := q4 z (by omega) hz
  simp only [Bool.and_eq_false_iff, decide_eq_false_iff_not] at this
  rcases this with h | h
  · exact fun q => h q.1
  · exact fun q => by rw [h] at q; exact absurd q.2 (by simp)
theorem bls_getN (f : Nat → Bool) {i N : Nat} (hi : i < N) {x : Bool} (e : f i = x) : (bls f N)[i]? = some (.bool x) := by rw [bls_at f hi, e]
/-! ### The walk -/
theorem gs_last {L : List Int} {u : Int} {m : Nat} (h : L.length = m) : (gs (L ++ [u]))[m]? = some (G u) := by
  rw [List.getElem?_map, List.getElem?_append_right (by omega), h, Nat.sub_self]; rfl
end

/-! ### What is known -/
structure A66 where
  M : List (List Int)
  i : Nat
  j : Nat
  k : Nat
def Pre66 (a : A66) (args : List AV) (h : Heap) : Prop := (isMat a.M = true ∧ a.i < a.M.length ∧ a.j < a.M.length ∧ a.k ≤ 100) ∧ args = [.agg (matC a.M), G a.i, G a.j, G a.k]
def Post66 (a : A66) (h : Heap) (v : AV) (own : List AObj) : Prop := (cw a.M a.j a.k a.i = false → v = .nils ∧ own = []) ∧ (cw a.M a.j a.k a.i = true → NG h (h.plus own) v ((a.i : Int) :: wlk a.M a.j a.k a.i))
noncomputable def T7 : CallF := addK tbl T6 66 Pre66 Post66
theorem t7 : Sound Go.Proofs.Try.prog T7 := Sound.addK follows ok t6 (by decide) _ _
end Go.Proofs.Ytjeemgaoonapgaa.Ev
