/-
  RollerAdds answers true at any int, matrix and pair, as the evaluator runs it. No condition.
-/
import Derived.Test.YtjeemgaoonapgaaRPow6
set_option linter.unusedVariables false
set_option linter.unusedSimpArgs false
namespace Go.Proofs.Ytjeemgaoonapgaa.Ev
open Go Go.AEv

attribute [local simp] evFunc initS evOps_c evTrim_c evSkip_c evExit_c evRet_c evSeq_c evCond_c evBlock_c evDraw_c runOps_n runOps_c exec_n exec_g pure1_c act AOpd.ev T.get T.set T.put evBin evUn forceT_eq forceV_eq forceL_eq evRess evRes one keep runFP_n runFP_c app_none AV.flats AV.flat came_some List.getElem?_cons_zero List.getElem?_cons_succ beqT wrapI idxI tdivI tmodI decT decF ibT ibF inT inF evScope_c if_pos if_neg Cm_some thenW_n thenW_e thenW_r blkW_n blkW_e blkW_r goI kn putAt AV.cells fillA loadA takeA mk Eff.isAll Eff.isNone Eff.commutes Eff.spares okPair apart eqAgg fits LK.fits allEq aveq eqk mmA

/-! ### The plain law -/
section
variable {M : List (List Int)}
def sm (f : Nat → Int) : Nat → Int
  | 0 => 0
  | k + 1 => sm f k + f k
end

/-! ### Square tables -/
structure TT (H : Heap) (n : Nat) (X : Nat → Int) (q : Nat) (rs : List AV) : Prop where
  g : H.get q = .cells 1 n rs
  r : ∀ i, i < n → ∃ b, rs[i]? = some (.slice b 0 n n) ∧ H.get b = .cells 1 n (gs (rwL X n i))
theorem TT.kp {H H' : Heap} {n : Nat} {X : Nat → Int} {q : Nat} {rs : List AV} (t : TT H n X q rs) (k : Kp (fun _ => False) H H') : TT H' n X q rs :=
  ⟨k.at t.g (by simp) id, fun i hi => by obtain ⟨b, e1, e2⟩ := t.r i hi; exact ⟨b, e1, k.at e2 (by simp) id⟩⟩
theorem rwL_at (X : Nat → Int) {n i j : Nat} (hj : j < n) : (gs (rwL X n i))[j]? = some (G (X (i * 8 + j))) := by
  show (gs (lf (fun j => X (i * 8 + j)) n))[j]? = _
  rw [gl_at _ hj]
theorem TB.tt {H0 H : Heap} {x : AV} {M : List (List Int)} {k : Nat} (hm : isMat M = true) (tb : TB H0 H x ((pwL M k).map gs)) : ∃ q rs, x = .slice q 0 M.length M.length ∧ TT H M.length (pwX M k) q rs := by
  have h8 := isMat_n hm
  obtain ⟨q0, rs, e, gq, lq, hr⟩ := tb.sl (i := 0) (by rw [pwL_len]; omega)
  rw [pwL_len] at e gq
  refine ⟨q0, rs, e, gq, fun i hi => ?_⟩
  obtain ⟨b2, e1, e2⟩ := hr i _ (pwL_at k hi)
  have lr : (gs (rwL (pwX M k) M.length i)).length = M.length := by simp [rwL, lf_len]
  rw [lr] at e1 e2
  exact ⟨b2, e1, e2⟩

/-! ### The walk -/
section
variable {n : Nat} {A B C : Nat → Int} {qa qb qc : Nat} {ra rb rc : List AV} {H : Heap}
end
end Go.Proofs.Ytjeemgaoonapgaa.Ev
