/-
  The code of the program's functions as the evaluator takes it, printed by wip/tool/emit.py. SCheck ties each to the translation. No condition.
-/
import Derived.Test.YtjeemgaoonapgaaSCode0
namespace Go.Proofs.Ytjeemgaoonapgaa.Ev
open Go Go.AEv
set_option linter.unusedVariables false
def tbl : Nat → Option CFunc
  | 3 => some c3
  | 11 => some c11
  | 18 => some c18
  | 20 => some c20
  | 22 => some c22
  | 23 => some c23
  | 24 => some c24
  | 27 => some c27
  | 28 => some c28
  | 29 => some c29
  | 32 => some c32
  | 33 => some c33
  | 34 => some c34
  | 39 => some c39
  | 43 => some c43
  | 54 => some c54
  | 55 => some c55
  | 56 => some c56
  | 57 => some c57
  | 58 => some c58
  | 59 => some c59
  | 60 => some c60
  | 61 => some c61
  | 62 => some c62
  | 63 => some c63
  | 64 => some c64
  | 65 => some c65
  | 67 => some c67
  | 68 => some c68
  | 72 => some c72
  | 73 => some c73
  | 74 => some c74
  | 76 => some c76
  | 77 => some c77
  | 78 => some c78
  | 79 => some c79
  | _ => none
end Go.Proofs.Ytjeemgaoonapgaa.Ev
