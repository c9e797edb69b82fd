/-
  What Exponent and the reference's Exponent answer. No condition.
-/
import Derived.Test.YtjeemgaoonapgaaRGraph
set_option linter.unusedVariables false
set_option linter.unusedSimpArgs false
namespace Go.Proofs.Ytjeemgaoonapgaa.Ev
open Go Go.AEv

attribute [local simp] evFunc initS evOps_c evTrim_c evSkip_c evExit_c evRet_c evSeq_c evCond_c evBlock_c evDraw_c runOps_n runOps_c exec_n exec_g pure1_c act AOpd.ev T.get T.set T.put evBin evUn forceT_eq forceV_eq forceL_eq evRess evRes one keep runFP_n runFP_c app_none AV.flats AV.flat

/-! ### The plain values -/
section
variable {M : List (List Int)}
/-- How many powers are looked at. -/
def exM (n : Nat) : Nat := (n - 1) * (n - 1) + 1
def exN (M : List (List Int)) : Nat := fva (fullB M) (exM M.length) 1
def exB (M : List (List Int)) : Bool := decide (exN M ≤ exM M.length)
/-! ### Exponent -/
end

end Go.Proofs.Ytjeemgaoonapgaa.Ev
