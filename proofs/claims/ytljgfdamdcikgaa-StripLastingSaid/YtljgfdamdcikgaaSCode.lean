/-
  The code of the program's functions as the evaluator takes it, printed by wip/tool/emit.py. SCheck ties each to the translation. No condition.
-/
import Derived.Test.YtljgfdamdcikgaaSCode0
import Derived.Test.YtljgfdamdcikgaaSCode1
namespace Go.Proofs.Ytljgfdamdcikgaa.Ev
open Go Go.AEv
set_option linter.unusedVariables false
def tbl : Nat → Option CFunc
  | 3 => some c3
  | 4 => some c4
  | 5 => some c5
  | 13 => some c13
  | 18 => some c18
  | 19 => some c19
  | 20 => some c20
  | 21 => some c21
  | 22 => some c22
  | 23 => some c23
  | 25 => some c25
  | 26 => some c26
  | 27 => some c27
  | 29 => some c29
  | 35 => some c35
  | 36 => some c36
  | 41 => some c41
  | 56 => some c56
  | 57 => some c57
  | 58 => some c58
  | 59 => some c59
  | 60 => some c60
  | 61 => some c61
  | 62 => some c62
  | 63 => some c63
  | 64 => some c64
  | 65 => some c65
  | 67 => some c67
  | 70 => some c70
  | 73 => some c73
  | 74 => some c74
  | 75 => some c75
  | 80 => some c80
  | 87 => some c87
  | 88 => some c88
  | 89 => some c89
  | 90 => some c90
  | 91 => some c91
  | 92 => some c92
  | 93 => some c93
  | 94 => some c94
  | 99 => some c99
  | 100 => some c100
  | 102 => some c102
  | 103 => some c103
  | 104 => some c104
  | 105 => some c105
  | 106 => some c106
  | 109 => some c109
  | 110 => some c110
  | 111 => some c111
  | _ => none
end Go.Proofs.Ytljgfdamdcikgaa.Ev
