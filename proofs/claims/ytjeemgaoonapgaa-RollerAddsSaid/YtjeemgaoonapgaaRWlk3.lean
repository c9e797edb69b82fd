/-
  The walk of the reference's Walk, and roller.Walk. No condition.
-/
import Derived.Test.YtjeemgaoonapgaaRTb
set_option linter.unusedVariables false
set_option linter.unusedSimpArgs false
namespace Go.Proofs.Ytjeemgaoonapgaa.Ev
open Go Go.AEv

attribute [local simp] evFunc initS evOps_c evTrim_c evSkip_c evExit_c evRet_c evSeq_c evCond_c evBlock_c evDraw_c runOps_n runOps_c exec_n exec_g pure1_c act AOpd.ev T.get T.set T.put evBin evUn forceT_eq forceV_eq forceL_eq evRess evRes one keep runFP_n runFP_c app_none AV.flats AV.flat

section
variable {M : List (List Int)}
end

/-! ### What is known -/
/-- The walk's list. -/
def wkL (M : List (List Int)) (i j k : Nat) : List Int := (i : Int) :: wlk M j k i
structure A36 where
  M : List (List Int)
  y : AV
  i : Nat
  j : Nat
  k : Nat
def Ok36 (a : A36) (h : Heap) : Prop := MR h a.y a.M ∧ isMat a.M = true ∧ a.i < a.M.length ∧ a.j < a.M.length ∧ a.k ≤ 100
def Pre36 (a : A36) (args : List AV) (h : Heap) : Prop := Ok36 a h ∧ args = [a.y, G a.i, G a.j, G a.k]
def Post36 (a : A36) (h : Heap) (v : AV) (own : List AObj) : Prop := (cw a.M a.j a.k a.i = false → v = .tup [.nils, .bool false] ∧ own = []) ∧ (cw a.M a.j a.k a.i = true → ∃ w, v = .tup [w, .bool true] ∧ NG h (h.plus own) w (wkL a.M a.i a.j a.k))
noncomputable def T8 : CallF := addK tbl T7 36 Pre36 Post36
theorem t8 : Sound Go.Proofs.Try.prog T8 := Sound.addK follows ok t7 (by decide) _ _
/-! ### roller.Walk -/
theorem NG.up {h : Heap} {X own : List AObj} {w : AV} {L : List Int} (t : NG ⟨h.get, h.size, X⟩ (Heap.plus ⟨h.get, h.size, X⟩ own) w L) : NG (frameOf h) (Heap.plus ⟨h.get, h.size, X⟩ own) w L :=
  ⟨(Kp.plus (frameOf h) X).trans t.k, fun q hq => Nat.le_trans (Kp.plus (M := fun _ => False) (frameOf h) X).size (t.x0 q hq), t.l⟩
section
variable {M : List (List Int)} {y : AV}
def wOk (M : List (List Int)) (i j k : Int) : Prop := isMat M = true ∧ (0 ≤ i ∧ i ≤ (M.length : Int) - 1) ∧ (0 ≤ j ∧ j ≤ (M.length : Int) - 1) ∧ (0 ≤ k ∧ k ≤ 100)
end

/-! ### What is known -/
structure A35 where
  M : List (List Int)
  y : AV
  i : Int
  j : Int
  k : Int
def Pre35 (a : A35) (args : List AV) (h : Heap) : Prop := MR h a.y a.M ∧ args = [a.y, G a.i, G a.j, G a.k]
def Post35 (a : A35) (h : Heap) (v : AV) (own : List AObj) : Prop := (¬ wOk a.M a.i a.j a.k → v = .tup [.nils, G 2] ∧ own = []) ∧ (wOk a.M a.i a.j a.k → cw a.M a.j.toNat a.k.toNat a.i.toNat = false → v = .tup [.nils, G 6] ∧ own = []) ∧ (wOk a.M a.i a.j a.k → cw a.M a.j.toNat a.k.toNat a.i.toNat = true → ∃ w, v = .tup [w, G 0] ∧ NG h (h.plus own) w (wkL a.M a.i.toNat a.j.toNat a.k.toNat))
noncomputable def T9 : CallF := addK tbl T8 35 Pre35 Post35
theorem t9 : Sound Go.Proofs.Try.prog T9 := Sound.addK follows ok t8 (by decide) _ _
end Go.Proofs.Ytjeemgaoonapgaa.Ev
