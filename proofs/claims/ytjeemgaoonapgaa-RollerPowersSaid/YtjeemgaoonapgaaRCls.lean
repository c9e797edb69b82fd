/-
  The classes of a matrix. No condition.
-/
import Derived.Test.YtjeemgaoonapgaaRRel
set_option linter.unusedVariables false
set_option linter.unusedSimpArgs false
namespace Go.Proofs.Ytjeemgaoonapgaa.Ev
open Go Go.AEv

attribute [local simp] evFunc initS evOps_c evTrim_c evSkip_c evExit_c evRet_c evSeq_c evCond_c evBlock_c evDraw_c runOps_n runOps_c exec_n exec_g pure1_c act AOpd.ev T.get T.set T.put evBin evUn forceT_eq forceV_eq forceL_eq evRess evRes one keep runFP_n runFP_c app_none AV.flats AV.flat came_some List.getElem?_cons_zero List.getElem?_cons_succ beqT wrapI idxI tdivI tmodI decT decF ibT ibF inT inF evScope_c if_pos if_neg Cm_some thenW_n thenW_e thenW_r blkW_n blkW_e blkW_r goI kn putAt AV.cells fillA loadA takeA mk Eff.isAll Eff.isNone Eff.commutes Eff.spares okPair apart eqAgg fits LK.fits allEq aveq eqk mmA

/-- The least number so far that leads to i and back. -/
def lsm (f : Nat → Bool) (i : Nat) : Nat → Nat
  | 0 => i
  | j + 1 => if f (i * 8 + j) && f (j * 8 + i) then min (lsm f i j) j else lsm f i j
def clN (M : List (List Int)) (i : Nat) : Nat := lsm (ldF M) i i
def clsL (M : List (List Int)) : List Int := lf (fun i => (clN M i : Int)) M.length
theorem app1_at (H : Heap) (k : AV) : (H.plus [.cells 1 1 [k]]).get H.size = .cells 1 1 [k] := plus_at0 _ _ _ _ rfl
section
variable {M : List (List Int)}
end

/-! ### What is known -/
def Pre62 (M : List (List Int)) (args : List AV) (h : Heap) : Prop := isMat M = true ∧ args = [.agg (matC M)]
def Post62 (M : List (List Int)) (h : Heap) (v : AV) (own : List AObj) : Prop := NG h (h.plus own) v (clsL M)
noncomputable def T6 : CallF := addK tbl T5 62 Pre62 Post62
theorem t6 : Sound Go.Proofs.Try.prog T6 := Sound.addK follows ok t5 (by decide) _ _
end Go.Proofs.Ytjeemgaoonapgaa.Ev
