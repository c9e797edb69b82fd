/-
  What the reference's Exponent answers, and what is known of both. No condition.
-/
import Derived.Test.YtjeemgaoonapgaaRExp
set_option linter.unusedVariables false
set_option linter.unusedSimpArgs false
namespace Go.Proofs.Ytjeemgaoonapgaa.Ev
open Go Go.AEv

attribute [local simp] evFunc initS evOps_c evTrim_c evSkip_c evExit_c evRet_c evSeq_c evCond_c evBlock_c evDraw_c runOps_n runOps_c exec_n exec_g pure1_c act AOpd.ev T.get T.set T.put evBin evUn forceT_eq forceV_eq forceL_eq evRess evRes one keep runFP_n runFP_c app_none AV.flats AV.flat

section
variable {M : List (List Int)}
end

/-! ### What is known -/
structure AM where
  M : List (List Int)
  y : AV
def PreM (a : AM) (args : List AV) (h : Heap) : Prop := MR h a.y a.M ∧ args = [a.y]
def Post34 (a : AM) (h : Heap) (v : AV) (own : List AObj) : Prop := v = (if isMat a.M then (if exB a.M then .tup [G (exN a.M), G 0] else .tup [G 0, G 6]) else .tup [G 0, G 2]) ∧ own = []
noncomputable def T10 : CallF := addK tbl T9 34 PreM Post34
theorem t10 : Sound Go.Proofs.Try.prog T10 := Sound.addK follows ok t9 (by decide) _ _
def PreO (a : AM) (args : List AV) (h : Heap) : Prop := (MR h a.y a.M ∧ isMat a.M = true) ∧ args = [a.y]
def Post44 (a : AM) (h : Heap) (v : AV) (own : List AObj) : Prop := v = (if exB a.M then .tup [G (exN a.M), .bool true] else .tup [G 0, .bool false]) ∧ own = []
noncomputable def T11 : CallF := addK tbl T10 44 PreO Post44
theorem t11 : Sound Go.Proofs.Try.prog T11 := Sound.addK follows ok t10 (by decide) _ _
end Go.Proofs.Ytjeemgaoonapgaa.Ev
