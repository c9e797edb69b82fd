/-
  The code of the program's functions as the evaluator takes it,printed by wip/tool/emit.py. SCheck ties each to the translation. No condition.
-/
import Derived.Test.YtljgfdamdcikgaaSCode0
import Derived.Test.YtljgfdamdcikgaaSCode1
namespace Go.Proofs.Ytljgfdamdcikgaa.Ev
open Go Go.AEv
set_option linter.unusedVariables false
def tbl : Nat → Option CFunc
  | 3 => some c3
  | 4 => some c4
  | 5 => some c5
  | 11 => some c11
  | 19 => some c19
  | 21 => some c21
  | 23 => some c23
  | 24 => some c24
  | 25 => some c25
  | 27 => some c27
  | 29 => some c29
  | 30 => some c30
  | 31 => some c31
  | 35 => some c35
  | 50 => some c50
  | 51 => some c51
  | 52 => some c52
  | 53 => some c53
  | 57 => some c57
  | 60 => some c60
  | 61 => some c61
  | 62 => some c62
  | 63 => some c63
  | 64 => some c64
  | 65 => some c65
  | 66 => some c66
  | 67 => some c67
  | 68 => some c68
  | 69 => some c69
  | 73 => some c73
  | 79 => some c79
  | 80 => some c80
  | 83 => some c83
  | 84 => some c84
  | 85 => some c85
  | 86 => some c86
  | 87 => some c87
  | 88 => some c88
  | 89 => some c89
  | 90 => some c90
  | 91 => some c91
  | 92 => some c92
  | 98 => some c98
  | 99 => some c99
  | 100 => some c100
  | 101 => some c101
  | 102 => some c102
  | 103 => some c103
  | 104 => some c104
  | 105 => some c105
  | 106 => some c106
  | 109 => some c109
  | 110 => some c110
  | 111 => some c111
  | _ => none
end Go.Proofs.Ytljgfdamdcikgaa.Ev
