/-
  What is known of Bounds and the reference's Bounds. No condition.
-/
import Derived.Test.YtjeemgaoonapgaaRBnd
set_option linter.unusedVariables false
set_option linter.unusedSimpArgs false
namespace Go.Proofs.Ytjeemgaoonapgaa.Ev
open Go Go.AEv

/-! ### What is known -/
def Good20 (args : List AV) (h : Heap) (v : AV) (own : List AObj) : Prop := ∀ y x M X, args = [y, x] → MR h y M → LR h x X → own = [] ∧ (vOk 1 M X → v = .tup [(bdV M X).1, (bdV M X).2, G 0]) ∧ (¬ vOk 1 M X → v = .tup [.agg [G 0, G 0], .agg [G 0, G 0], G 2])
def Good26 (args : List AV) (h : Heap) (v : AV) (own : List AObj) : Prop := ∀ y x M X, args = [y, x] → MR h y M → LR h x X → vOk 1 M X → own = [] ∧ v = .tup [(bdV M X).1, (bdV M X).2]
noncomputable def R20 : CallF := addX tbl R19 20 Good20
theorem s20 : Sound Go.Proofs.Try.prog R20 := Sound.addX follows ok s19 (by decide) Good20
noncomputable def R21 : CallF := addX tbl R20 26 Good26
theorem s21 : Sound Go.Proofs.Try.prog R21 := Sound.addX follows ok s20 (by decide) Good26
theorem addI_ne {I : CallF} {f g : Nat} {spec : SpecF} (hg : g ≠ f) (args : List AV) (h : Heap) : addI I f spec g args h = I g args h := if_neg hg
theorem addV_ne {I : CallF} {f g : Nat} {spec : SpecV} (hg : g ≠ f) (args : List AV) (h : Heap) : addV I f spec g args h = I g args h := if_neg hg
/-! ### The small functions, at this table -/
theorem k17_r : K17 R21 := fun h y M a => by
  simp (disch := decide) only [R21, R20, R19, R18, R17, R16, R15, R14, addI_ne, addX_ne]
  exact k17 h y M a
theorem k21_r : K21 R21 := fun h y M a b => by
  simp (disch := decide) only [R21, R20, R19, R18, R17, R16, addI_ne, addX_ne]
  exact k21 h y M a b
theorem k23_r : ∀ h, R21 23 [] h = some (.bool true, [], false) := fun h => by
  simp (disch := decide) only [R21, R20, R19, R18, R17, R16, R15, R14, R13, R12, R11, R10, R9, R8, R7, R6, R5, R4, addI_ne, addX_ne, addV_ne]
  exact k23 h
theorem k24_r : K24 R21 := fun h x y a b c d e => by
  simp (disch := decide) only [R21, R20, R19, R18, R17, R16, R15, R14, R13, addI_ne, addX_ne]
  exact k24 h x y a b c d e

end Go.Proofs.Ytjeemgaoonapgaa.Ev
