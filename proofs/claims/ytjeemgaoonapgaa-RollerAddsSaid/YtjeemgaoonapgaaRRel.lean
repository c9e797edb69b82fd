/-
  Which numbers have a step to which ones, and which lead to which ones. No condition.
-/
import Derived.Test.YtjeemgaoonapgaaRTame
import Derived.Test.YtjeemgaoonapgaaEvW
set_option linter.unusedVariables false
set_option linter.unusedSimpArgs false
namespace Go.Proofs.Ytjeemgaoonapgaa.Ev
open Go Go.AEv

attribute [local simp] evFunc initS evOps_c evTrim_c evSkip_c evExit_c evRet_c evSeq_c evCond_c evBlock_c evDraw_c runOps_n runOps_c exec_n exec_g pure1_c act AOpd.ev T.get T.set T.put evBin evUn forceT_eq forceV_eq forceL_eq evRess evRes one keep runFP_n runFP_c app_none AV.flats AV.flat

theorem getI {α : Type} {l : List α} {i : Nat} {x : α} (e : l[i]? = some x) : ∀ h : i < l.length, l[i] = x := fun h => by rw [List.getElem?_eq_getElem h] at e; exact Option.some.inj e
/-! ### steps -/
def stF (M : List (List Int)) (x : Nat) : Bool := decide (0 < ent M (x / 8) (x % 8))
theorem ent_out {M : List (List Int)} (hm : isMat M = true) {i j : Nat} (h : M.length ≤ i ∨ M.length ≤ j) : ent M i j = 0 := by
  unfold ent
  by_cases hi : i < M.length
  · have := (isMat_row hm hi).1
    rw [List.getD_eq_getElem?_getD, List.getElem?_eq_none (by omega)]; rfl
  · rw [List.getD_eq_getElem?_getD (l := M), List.getElem?_eq_none (by omega)]; rfl
section
variable {M : List (List Int)}
end

/-! ### What is known so far -/
def Good64 (args : List AV) (h : Heap) (v : AV) (own : List AObj) : Prop := ∀ M, isMat M = true → args = [.agg (matC M)] → own = [] ∧ v = .agg (bls (stF M) 64)
noncomputable def T4 : CallF := addX tbl T3 64 Good64
theorem t4 : Sound Go.Proofs.Try.prog T4 := Sound.addX follows ok t3 (by decide) Good64
/-! ### leads -/
section
variable {M : List (List Int)}
/-- The diagonal, as far as i. -/
def dF (M : List (List Int)) (i x : Nat) : Bool := stF M x || decide (x / 8 = x % 8 ∧ x / 8 < i)
/-- Ways by numbers less than k. -/
def wsh (M : List (List Int)) : Nat → Nat → Bool
  | 0, x => dF M M.length x
  | k + 1, x => wsh M k x || (wsh M k (x / 8 * 8 + k) && wsh M k (k * 8 + x % 8))
def ldF (M : List (List Int)) : Nat → Bool := wsh M M.length
end
def Good67 (args : List AV) (h : Heap) (v : AV) (own : List AObj) : Prop := ∀ M, isMat M = true → args = [.agg (matC M)] → own = [] ∧ v = .agg (bls (ldF M) 64)
noncomputable def T5 : CallF := addX tbl T4 67 Good67
theorem t5 : Sound Go.Proofs.Try.prog T5 := Sound.addX follows ok t4 (by decide) Good67
end Go.Proofs.Ytjeemgaoonapgaa.Ev
