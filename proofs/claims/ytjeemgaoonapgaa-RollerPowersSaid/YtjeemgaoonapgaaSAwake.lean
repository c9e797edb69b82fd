/-
  awake answers true: the evaluator runs it, and the kernel checks the run. No condition.
-/
import Derived.Test.YtjeemgaoonapgaaRTimes
namespace Go.Proofs.Ytjeemgaoonapgaa.Ev
open Go Go.AEv

def ub : AV → Bool
  | .bool b => b
  | _ => false
def isB : AV → Bool
  | .bool _ => true
  | _ => false
def spec65 : SpecV
  | [.agg a, .agg b] => if a.length = 64 ∧ b.length = 64 ∧ a.all isB = true ∧ b.all isB = true then some (.agg (bls (tmf (fun x => ub (a.getD x .undef)) (fun x => ub (b.getD x .undef))) 64)) else none
  | _ => none
theorem bls_of (a : List AV) (n : Nat) (h : a.length = n) (hb : a.all isB = true) : a = bls (fun x => ub (a.getD x .undef)) n := by
  apply List.ext_getElem?
  intro i
  by_cases hi : i < n
  · rw [bls_at _ hi]
    have e : a[i]? = some a[i] := List.getElem?_eq_getElem (by omega)
    rw [List.getD_eq_getElem?_getD, e]
    have := (List.all_eq_true.1 hb) a[i] (List.getElem_mem _)
    cases hx : a[i] <;> rw [hx] at this <;> simp_all [isB, ub]
  · rw [List.getElem?_eq_none (by omega), List.getElem?_eq_none (by simp [bls_len]; omega)]
def R1 : CallF := addV noIntr 65 spec65
theorem s1 : Sound Go.Proofs.Try.prog R1 := Sound.addV follows ok Sound.empty (by decide) (fun args v h => by
  unfold spec65 at h
  split at h
  · split at h
    · rename_i a b hh
      obtain ⟨h1, h2, h3, h4⟩ := hh
      simp only [Option.some.injEq] at h; subst h
      rw [bls_of a 64 h1 h3, bls_of b 64 h2 h4]
      have := c65_ok noIntr (fun _ _ => rfl) e0 (fun x => ub (a.getD x .undef)) (fun x => ub (b.getD x .undef))
      rw [← bls_of a 64 h1 h3, ← bls_of b 64 h2 h4] at this ⊢
      exact this
    · cases h
  · cases h)
def isTrue0 : Option (AV × List AObj × Bool) → Bool
  | some (.bool true, [], false) => true
  | _ => false
set_option maxRecDepth 100000 in
theorem awake_run : isTrue0 ((evW tbl R1 60).call 23 [] e0) = true := by decide +kernel
end Go.Proofs.Ytjeemgaoonapgaa.Ev
