/-
  awake answers true, reckoned out by the kernel. No condition.
-/
import Derived.Test.YtlkgpcfhpeilhaaSWays
namespace Go.Proofs.Ytlkgpcfhpeilhaa.Ev
open Go Go.AEv
def isTrue0 : Option (AV × List AObj × Bool) → Bool
  | some (.bool true, [], false) => true
  | _ => false
theorem awake_run : isTrue0 ((evW tbl (addI noIntr 54 spec54) 60).call 20 [] e0) = true := by decide +kernel
end Go.Proofs.Ytlkgpcfhpeilhaa.Ev
