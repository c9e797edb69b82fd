/-
  The code of the program's functions as the evaluator takes it, printed by wip/tool/emit.py. SCheck ties each to the translation. No condition.
-/
import Derived.Test.YtjeemgaoonapgaaSCode0
import Derived.Test.YtjeemgaoonapgaaSCode1
namespace Go.Proofs.Ytjeemgaoonapgaa.Ev
open Go Go.AEv
set_option linter.unusedVariables false
def tbl : Nat → Option CFunc
  | 3 => some c3
  | 4 => some c4
  | 5 => some c5
  | 8 => some c8
  | 17 => some c17
  | 18 => some c18
  | 20 => some c20
  | 21 => some c21
  | 22 => some c22
  | 23 => some c23
  | 24 => some c24
  | 27 => some c27
  | 29 => some c29
  | 32 => some c32
  | 33 => some c33
  | 34 => some c34
  | 36 => some c36
  | 37 => some c37
  | 38 => some c38
  | 39 => some c39
  | 40 => some c40
  | 41 => some c41
  | 42 => some c42
  | 50 => some c50
  | 51 => some c51
  | 54 => some c54
  | 55 => some c55
  | 56 => some c56
  | 57 => some c57
  | 58 => some c58
  | 59 => some c59
  | 60 => some c60
  | 61 => some c61
  | 62 => some c62
  | 63 => some c63
  | 64 => some c64
  | 65 => some c65
  | 66 => some c66
  | 67 => some c67
  | 68 => some c68
  | 69 => some c69
  | 70 => some c70
  | 71 => some c71
  | 76 => some c76
  | 77 => some c77
  | 78 => some c78
  | _ => none
end Go.Proofs.Ytjeemgaoonapgaa.Ev
