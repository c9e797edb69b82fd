/-
  What bits.Mul answers, of 1 and a small number. No condition.
-/
import Derived.Test.YtlkgpcfhpeilhaaSLeft
import Derived.Test.YtlkgpcfhpeilhaaEvHeap
set_option linter.unusedVariables false
set_option linter.unusedSimpArgs false
namespace Go.Proofs.Ytlkgpcfhpeilhaa.Ev
open Go Go.AEv

/-! ### bits.Mul, of 1 and a small number -/
def chk69 (n : Nat) : Bool := match (evW tbl noIntr 12).call 69 [.int .u64 1, .int .u64 n] e0 with
  | some (.tup [.int .u64 0, .int .u64 m], [], false) => m == n
  | _ => false
theorem chk69_all : (List.range 64).all chk69 = true := by decide +kernel
theorem c69_ok (n : Nat) (h : n < 64) : CallsTo tbl noIntr 69 [.int .u64 1, .int .u64 n] e0 (.tup [.int .u64 0, .int .u64 n], [], false) := by
  have := List.all_eq_true.1 chk69_all n (List.mem_range.2 h)
  unfold chk69 at this
  split at this
  · rename_i m e
    simp only [beq_iff_eq] at this
    subst this
    exact ⟨12, e⟩
  · cases this
def spec69 : SpecV
  | [.int .u64 a, .int .u64 n] => if a = 1 ∧ 0 ≤ n ∧ n < 64 then some (.tup [.int .u64 0, .int .u64 n]) else none
  | _ => none
noncomputable def I26 : CallF := addV I25 69 spec69
theorem s26 : Sound Go.Proofs.Try.prog I26 := Sound.addV2 follows ok s25 Sound.empty (by decide) (fun args v h => by
  unfold spec69 at h
  split at h
  · split at h
    · rename_i a n hh
      obtain ⟨rfl, h1, h2⟩ := hh
      obtain ⟨N, rfl⟩ : ∃ N : Nat, n = N := ⟨n.toNat, by omega⟩
      simp only [Option.some.injEq] at h; subst h; exact c69_ok N (by omega)
    · cases h
  · cases h)
theorem g69 (h : Heap) (n : Int) (h1 : 0 ≤ n) (h2 : n < 64) : I26 69 [.int .u64 1, .int .u64 n] h = some (.tup [.int .u64 0, .int .u64 n], [], false) := by simp [I26, AEv.addV, spec69, h1, h2, AV.flats, AV.flat]

end Go.Proofs.Ytlkgpcfhpeilhaa.Ev
