/-
  The code of the program's functions as the evaluator takes it,printed by wip/tool/emit.py. SCheck ties each to the translation. No condition.
-/
import Derived.Test.YtljgfdamdcikgaaSCode0
import Derived.Test.YtljgfdamdcikgaaSCode1
namespace Go.Proofs.Ytljgfdamdcikgaa.Ev
open Go Go.AEv
set_option linter.unusedVariables false
def tbl : Nat → Option CFunc
  | 3 => some c3
  | 4 => some c4
  | 5 => some c5
  | 17 => some c17
  | 18 => some c18
  | 19 => some c19
  | 21 => some c21
  | 23 => some c23
  | 25 => some c25
  | 29 => some c29
  | 32 => some c32
  | 35 => some c35
  | 39 => some c39
  | 45 => some c45
  | 51 => some c51
  | 54 => some c54
  | 55 => some c55
  | 56 => some c56
  | 57 => some c57
  | 60 => some c60
  | 61 => some c61
  | 62 => some c62
  | 63 => some c63
  | 64 => some c64
  | 65 => some c65
  | 70 => some c70
  | 73 => some c73
  | 77 => some c77
  | 78 => some c78
  | 79 => some c79
  | 80 => some c80
  | 83 => some c83
  | 84 => some c84
  | 85 => some c85
  | 86 => some c86
  | 87 => some c87
  | 88 => some c88
  | 89 => some c89
  | 90 => some c90
  | 91 => some c91
  | 92 => some c92
  | 93 => some c93
  | 95 => some c95
  | 96 => some c96
  | 97 => some c97
  | 98 => some c98
  | 99 => some c99
  | 100 => some c100
  | 101 => some c101
  | 102 => some c102
  | 103 => some c103
  | 104 => some c104
  | 105 => some c105
  | 106 => some c106
  | 107 => some c107
  | 108 => some c108
  | 109 => some c109
  | 110 => some c110
  | 111 => some c111
  | 112 => some c112
  | _ => none
end Go.Proofs.Ytljgfdamdcikgaa.Ev
