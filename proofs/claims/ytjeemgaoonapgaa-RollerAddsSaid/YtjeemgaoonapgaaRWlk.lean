/-
  What walk answers. No condition.
-/
import Derived.Test.YtjeemgaoonapgaaRCls
set_option linter.unusedVariables false
set_option linter.unusedSimpArgs false
namespace Go.Proofs.Ytjeemgaoonapgaa.Ev
open Go Go.AEv

attribute [local simp] evFunc initS evOps_c evTrim_c evSkip_c evExit_c evRet_c evSeq_c evCond_c evBlock_c evDraw_c runOps_n runOps_c exec_n exec_g pure1_c act AOpd.ev T.get T.set T.put evBin evUn forceT_eq forceV_eq forceL_eq evRess evRes one keep runFP_n runFP_c app_none AV.flats AV.flat

/-! ### The plain values -/
/-- Does one of the first numbers come after u, and have c? -/
def pv (M : List (List Int)) (c : Nat → Bool) (u : Nat) : Nat → Bool
  | 0 => false
  | v + 1 => pv M c u v || (decide (0 < ent M u v) && c v)
/-- Is there a walk of so many steps from u to j? -/
def cw (M : List (List Int)) (j : Nat) : Nat → Nat → Bool
  | 0, u => decide (u = j)
  | s + 1, u => pv M (cw M j s) u M.length
/-- The first number with g, from v on. -/
def fva (g : Nat → Bool) : Nat → Nat → Nat
  | 0, v => v
  | m + 1, v => if g v then v else fva g m (v + 1)
def nxW (M : List (List Int)) (j t u : Nat) : Nat := fva (fun v => decide (0 < ent M u v) && cw M j t v) M.length 0
def wlk (M : List (List Int)) (j : Nat) : Nat → Nat → List Int
  | 0, _ => []
  | t + 1, u => (nxW M j t u : Int) :: wlk M j t (nxW M j t u)
section
variable {M : List (List Int)}
/-! ### The walk -/
end

/-! ### What is known -/
structure A66 where
  M : List (List Int)
  i : Nat
  j : Nat
  k : Nat
def Pre66 (a : A66) (args : List AV) (h : Heap) : Prop := (isMat a.M = true ∧ a.i < a.M.length ∧ a.j < a.M.length ∧ a.k ≤ 100) ∧ args = [.agg (matC a.M), G a.i, G a.j, G a.k]
def Post66 (a : A66) (h : Heap) (v : AV) (own : List AObj) : Prop := (cw a.M a.j a.k a.i = false → v = .nils ∧ own = []) ∧ (cw a.M a.j a.k a.i = true → NG h (h.plus own) v ((a.i : Int) :: wlk a.M a.j a.k a.i))
noncomputable def T7 : CallF := addK tbl T6 66 Pre66 Post66
theorem t7 : Sound Go.Proofs.Try.prog T7 := Sound.addK follows ok t6 (by decide) _ _
end Go.Proofs.Ytjeemgaoonapgaa.Ev
