/-
  The reference's Power. No condition.
-/
import Derived.Test.YtjeemgaoonapgaaRPow4
set_option linter.unusedVariables false
set_option linter.unusedSimpArgs false
namespace Go.Proofs.Ytjeemgaoonapgaa.Ev
open Go Go.AEv

attribute [local simp] evFunc initS evOps_c evTrim_c evSkip_c evExit_c evRet_c evSeq_c evCond_c evBlock_c evDraw_c runOps_n runOps_c exec_n exec_g pure1_c act AOpd.ev T.get T.set T.put evBin evUn forceT_eq forceV_eq forceL_eq evRess evRes one keep runFP_n runFP_c app_none AV.flats AV.flat

section
variable {M : List (List Int)}
/-- The table of the power so far, and the matrix. -/
structure E46 (M : List (List Int)) (X : Nat → Int) (H : Heap) (b v q0 : Nat) (cs rs : List AV) : Prop where
  mx : MX H M b v cs
  gq : H.get q0 = .cells 1 M.length rs
  r : ∀ i, i < M.length → ∃ b2, rs[i]? = some (.slice b2 0 M.length M.length) ∧ H.get b2 = .cells 1 M.length (gs (rwL X M.length i))
theorem E46.kp {X : Nat → Int} {H H' : Heap} {b v q0 : Nat} {cs rs : List AV} (e : E46 M X H b v q0 cs rs) (k : Kp (fun _ => False) H H') : E46 M X H' b v q0 cs rs :=
  ⟨e.mx.kp k, k.at e.gq (by simp) id, fun i hi => by obtain ⟨b2, x, y⟩ := e.r i hi; exact ⟨b2, x, k.at y (by simp) id⟩⟩
end

end Go.Proofs.Ytjeemgaoonapgaa.Ev
