/-
  What Bounds and the reference's Bounds answer: the first of the smallest quotients, and of the greatest ones. No condition.
-/
import Derived.Test.YtjeemgaoonapgaaRNext2
set_option linter.unusedVariables false
set_option linter.unusedSimpArgs false
namespace Go.Proofs.Ytjeemgaoonapgaa.Ev
open Go Go.AEv

attribute [local simp] evFunc initS evOps_c evTrim_c evSkip_c evExit_c evRet_c evSeq_c evCond_c evBlock_c evDraw_c runOps_n runOps_c exec_n exec_g pure1_c act AOpd.ev T.get T.set T.put evBin evUn forceT_eq forceV_eq forceL_eq evRess evRes one keep runFP_n runFP_c app_none AV.flats AV.flat came_some List.getElem?_cons_zero List.getElem?_cons_succ beqT wrapI idxI tdivI tmodI decT decF ibT ibF inT inF evScope_c if_pos if_neg Cm_some thenW_n thenW_e thenW_r blkW_n blkW_e blkW_r goI kn putAt AV.cells fillA loadA takeA mk Eff.isAll Eff.isNone Eff.commutes Eff.spares okPair apart eqAgg fits LK.fits allEq aveq eqk mmA

/-! ### Fractions -/
theorem mul_bd {x y : Int} {X Y : Int} (h1 : 0 ≤ x) (h2 : x ≤ X) (h3 : 0 ≤ y) (h4 : y ≤ Y) : 0 ≤ x * y ∧ x * y ≤ X * Y :=
  ⟨Int.mul_nonneg h1 h3, Int.mul_le_mul h2 h4 h3 (by omega)⟩
/-- The first of the smallest quotients among the first i. -/
def loI (Y X : Nat → Int) : Nat → Nat
  | 0 => 0
  | i + 1 => if Y i * X (loI Y X i) < Y (loI Y X i) * X i then i else loI Y X i
def hiI (Y X : Nat → Int) : Nat → Nat
  | 0 => 0
  | i + 1 => if Y (hiI Y X i) * X i < Y i * X (hiI Y X i) then i else hiI Y X i
/-! ### The reference's Bounds -/
section
variable {Y X : Nat → Int} {n : Nat}
end
section
variable {M : List (List Int)} {X : List Int} {x y : AV}
/-- The two fractions. -/
def bdV (M : List (List Int)) (X : List Int) : AV × AV := (let Y := fun i => nxv M X i M.length; let Z := fun i => X.getD i 0; let l := loI Y Z M.length; let h := hiI Y Z M.length; (fr (Y l) (Z l), fr (Y h) (Z h)))
end
end Go.Proofs.Ytjeemgaoonapgaa.Ev
