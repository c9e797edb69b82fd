/-
  What within answers. No condition.
-/
import Derived.Test.YtlkgpcfhpeilhaaEvWp
import Derived.Test.YtlkgpcfhpeilhaaSCode
set_option linter.unusedVariables false
set_option linter.unusedSimpArgs false
namespace Go.Proofs.Ytlkgpcfhpeilhaa.Ev
open Go Go.AEv

abbrev G (n : Int) : AV := .int .i64 n

theorem wrap_id (n : Int) (h : -9223372036854775808 ≤ n) (h' : n ≤ 9223372036854775807) : IntKind.i64.wrap n = n := by
  unfold IntKind.wrap IntKind.bits IntKind.signed
  simp only [Bool.true_and, decide_eq_true_eq]
  split <;> omega

theorem within_ok (I : CallF) (hI : ∀ a h, I 67 a h = none) (n lo hi : Int) (h : Heap) : CallsTo tbl I 67 [G n, G lo, G hi] h (.bool (decide (lo ≤ n ∧ n ≤ hi)), [], false) := by
  refine CallsTo.plain (cf := c67) (h' := frameOf h) (by decide) rfl (hI _ _) rfl rfl ?_
  by_cases h1 : lo ≤ n
  · by_cases h2 : n ≤ hi
    · simp [evFunc, initS, c67, evCode, runOps, exec, act, pure1, AOpd.ev, T.get, T.set, T.put, evBin, evUn, Eff.app, forceT_eq, forceV_eq, evRess, evRes, one, h1, h2]
    · simp [evFunc, initS, c67, evCode, runOps, exec, act, pure1, AOpd.ev, T.get, T.set, T.put, evBin, evUn, Eff.app, forceT_eq, forceV_eq, evRess, evRes, one, h1, h2]
  · simp [evFunc, initS, c67, evCode, runOps, exec, act, pure1, AOpd.ev, T.get, T.set, T.put, evBin, evUn, Eff.app, forceT_eq, forceV_eq, evRess, evRes, one, h1]

end Go.Proofs.Ytlkgpcfhpeilhaa.Ev
