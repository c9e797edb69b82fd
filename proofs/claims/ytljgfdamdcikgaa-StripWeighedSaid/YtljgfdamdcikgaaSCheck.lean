/-
  The printed code of every function of the seat is the code of the translation, as the evaluator reads it. No condition.
-/
import Derived.Test.YtljgfdamdcikgaaEvFunc
import Derived.Test.YtljgfdamdcikgaaSCode
import Derived.Test.YtljgfdamdcikgaaProg
namespace Go.Proofs.Ytljgfdamdcikgaa.Ev
open Go Go.AEv
theorem ok_3 : funcOk Go.Proofs.Try.prog 3 c3 = true := by decide +kernel
theorem ok_4 : funcOk Go.Proofs.Try.prog 4 c4 = true := by decide +kernel
theorem ok_5 : funcOk Go.Proofs.Try.prog 5 c5 = true := by decide +kernel
theorem ok_17 : funcOk Go.Proofs.Try.prog 17 c17 = true := by decide +kernel
theorem ok_18 : funcOk Go.Proofs.Try.prog 18 c18 = true := by decide +kernel
theorem ok_19 : funcOk Go.Proofs.Try.prog 19 c19 = true := by decide +kernel
theorem ok_21 : funcOk Go.Proofs.Try.prog 21 c21 = true := by decide +kernel
theorem ok_23 : funcOk Go.Proofs.Try.prog 23 c23 = true := by decide +kernel
theorem ok_25 : funcOk Go.Proofs.Try.prog 25 c25 = true := by decide +kernel
theorem ok_29 : funcOk Go.Proofs.Try.prog 29 c29 = true := by decide +kernel
theorem ok_32 : funcOk Go.Proofs.Try.prog 32 c32 = true := by decide +kernel
theorem ok_35 : funcOk Go.Proofs.Try.prog 35 c35 = true := by decide +kernel
theorem ok_39 : funcOk Go.Proofs.Try.prog 39 c39 = true := by decide +kernel
theorem ok_45 : funcOk Go.Proofs.Try.prog 45 c45 = true := by decide +kernel
theorem ok_51 : funcOk Go.Proofs.Try.prog 51 c51 = true := by decide +kernel
theorem ok_54 : funcOk Go.Proofs.Try.prog 54 c54 = true := by decide +kernel
theorem ok_55 : funcOk Go.Proofs.Try.prog 55 c55 = true := by decide +kernel
theorem ok_56 : funcOk Go.Proofs.Try.prog 56 c56 = true := by decide +kernel
theorem ok_57 : funcOk Go.Proofs.Try.prog 57 c57 = true := by decide +kernel
theorem ok_60 : funcOk Go.Proofs.Try.prog 60 c60 = true := by decide +kernel
theorem ok_61 : funcOk Go.Proofs.Try.prog 61 c61 = true := by decide +kernel
theorem ok_62 : funcOk Go.Proofs.Try.prog 62 c62 = true := by decide +kernel
theorem ok_63 : funcOk Go.Proofs.Try.prog 63 c63 = true := by decide +kernel
theorem ok_64 : funcOk Go.Proofs.Try.prog 64 c64 = true := by decide +kernel
theorem ok_65 : funcOk Go.Proofs.Try.prog 65 c65 = true := by decide +kernel
theorem ok_70 : funcOk Go.Proofs.Try.prog 70 c70 = true := by decide +kernel
theorem ok_73 : funcOk Go.Proofs.Try.prog 73 c73 = true := by decide +kernel
theorem ok_77 : funcOk Go.Proofs.Try.prog 77 c77 = true := by decide +kernel
theorem ok_78 : funcOk Go.Proofs.Try.prog 78 c78 = true := by decide +kernel
theorem ok_79 : funcOk Go.Proofs.Try.prog 79 c79 = true := by decide +kernel
theorem ok_80 : funcOk Go.Proofs.Try.prog 80 c80 = true := by decide +kernel
theorem ok_83 : funcOk Go.Proofs.Try.prog 83 c83 = true := by decide +kernel
theorem ok_84 : funcOk Go.Proofs.Try.prog 84 c84 = true := by decide +kernel
theorem ok_85 : funcOk Go.Proofs.Try.prog 85 c85 = true := by decide +kernel
theorem ok_86 : funcOk Go.Proofs.Try.prog 86 c86 = true := by decide +kernel
theorem ok_87 : funcOk Go.Proofs.Try.prog 87 c87 = true := by decide +kernel
theorem ok_88 : funcOk Go.Proofs.Try.prog 88 c88 = true := by decide +kernel
theorem ok_89 : funcOk Go.Proofs.Try.prog 89 c89 = true := by decide +kernel
theorem ok_90 : funcOk Go.Proofs.Try.prog 90 c90 = true := by decide +kernel
theorem ok_91 : funcOk Go.Proofs.Try.prog 91 c91 = true := by decide +kernel
theorem ok_92 : funcOk Go.Proofs.Try.prog 92 c92 = true := by decide +kernel
theorem ok_93 : funcOk Go.Proofs.Try.prog 93 c93 = true := by decide +kernel
theorem ok_95 : funcOk Go.Proofs.Try.prog 95 c95 = true := by decide +kernel
theorem ok_96 : funcOk Go.Proofs.Try.prog 96 c96 = true := by decide +kernel
theorem ok_97 : funcOk Go.Proofs.Try.prog 97 c97 = true := by decide +kernel
theorem ok_98 : funcOk Go.Proofs.Try.prog 98 c98 = true := by decide +kernel
theorem ok_99 : funcOk Go.Proofs.Try.prog 99 c99 = true := by decide +kernel
theorem ok_100 : funcOk Go.Proofs.Try.prog 100 c100 = true := by decide +kernel
theorem ok_101 : funcOk Go.Proofs.Try.prog 101 c101 = true := by decide +kernel
theorem ok_102 : funcOk Go.Proofs.Try.prog 102 c102 = true := by decide +kernel
theorem ok_103 : funcOk Go.Proofs.Try.prog 103 c103 = true := by decide +kernel
theorem ok_104 : funcOk Go.Proofs.Try.prog 104 c104 = true := by decide +kernel
theorem ok_105 : funcOk Go.Proofs.Try.prog 105 c105 = true := by decide +kernel
theorem ok_106 : funcOk Go.Proofs.Try.prog 106 c106 = true := by decide +kernel
theorem ok_107 : funcOk Go.Proofs.Try.prog 107 c107 = true := by decide +kernel
theorem ok_108 : funcOk Go.Proofs.Try.prog 108 c108 = true := by decide +kernel
theorem ok_109 : funcOk Go.Proofs.Try.prog 109 c109 = true := by decide +kernel
theorem ok_110 : funcOk Go.Proofs.Try.prog 110 c110 = true := by decide +kernel
theorem ok_111 : funcOk Go.Proofs.Try.prog 111 c111 = true := by decide +kernel
theorem ok_112 : funcOk Go.Proofs.Try.prog 112 c112 = true := by decide +kernel
set_option maxRecDepth 20000 in
theorem ok : ∀ f cf, tbl f = some cf → funcOk Go.Proofs.Try.prog f cf = true := by
  intro f cf h
  unfold tbl at h
  split at h
  · cases h; exact ok_3
  · cases h; exact ok_4
  · cases h; exact ok_5
  · cases h; exact ok_17
  · cases h; exact ok_18
  · cases h; exact ok_19
  · cases h; exact ok_21
  · cases h; exact ok_23
  · cases h; exact ok_25
  · cases h; exact ok_29
  · cases h; exact ok_32
  · cases h; exact ok_35
  · cases h; exact ok_39
  · cases h; exact ok_45
  · cases h; exact ok_51
  · cases h; exact ok_54
  · cases h; exact ok_55
  · cases h; exact ok_56
  · cases h; exact ok_57
  · cases h; exact ok_60
  · cases h; exact ok_61
  · cases h; exact ok_62
  · cases h; exact ok_63
  · cases h; exact ok_64
  · cases h; exact ok_65
  · cases h; exact ok_70
  · cases h; exact ok_73
  · cases h; exact ok_77
  · cases h; exact ok_78
  · cases h; exact ok_79
  · cases h; exact ok_80
  · cases h; exact ok_83
  · cases h; exact ok_84
  · cases h; exact ok_85
  · cases h; exact ok_86
  · cases h; exact ok_87
  · cases h; exact ok_88
  · cases h; exact ok_89
  · cases h; exact ok_90
  · cases h; exact ok_91
  · cases h; exact ok_92
  · cases h; exact ok_93
  · cases h; exact ok_95
  · cases h; exact ok_96
  · cases h; exact ok_97
  · cases h; exact ok_98
  · cases h; exact ok_99
  · cases h; exact ok_100
  · cases h; exact ok_101
  · cases h; exact ok_102
  · cases h; exact ok_103
  · cases h; exact ok_104
  · cases h; exact ok_105
  · cases h; exact ok_106
  · cases h; exact ok_107
  · cases h; exact ok_108
  · cases h; exact ok_109
  · cases h; exact ok_110
  · cases h; exact ok_111
  · cases h; exact ok_112
  · cases h
theorem follows : Go.Proofs.Try.prog.follows .mixedOrders = true := by decide +kernel
end Go.Proofs.Ytljgfdamdcikgaa.Ev
