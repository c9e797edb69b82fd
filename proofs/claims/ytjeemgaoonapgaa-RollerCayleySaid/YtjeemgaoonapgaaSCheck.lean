/-
  The printed code of every function of the seat is the code of the translation, as the evaluator reads it. No condition.
-/
import Derived.Test.YtjeemgaoonapgaaEvFunc
import Derived.Test.YtjeemgaoonapgaaSCode
import Derived.Test.YtjeemgaoonapgaaProg
namespace Go.Proofs.Ytjeemgaoonapgaa.Ev
open Go Go.AEv
theorem ok_3 : funcOk Go.Proofs.Try.prog 3 c3 = true := by decide +kernel
theorem ok_11 : funcOk Go.Proofs.Try.prog 11 c11 = true := by decide +kernel
theorem ok_18 : funcOk Go.Proofs.Try.prog 18 c18 = true := by decide +kernel
theorem ok_20 : funcOk Go.Proofs.Try.prog 20 c20 = true := by decide +kernel
theorem ok_22 : funcOk Go.Proofs.Try.prog 22 c22 = true := by decide +kernel
theorem ok_23 : funcOk Go.Proofs.Try.prog 23 c23 = true := by decide +kernel
theorem ok_24 : funcOk Go.Proofs.Try.prog 24 c24 = true := by decide +kernel
theorem ok_27 : funcOk Go.Proofs.Try.prog 27 c27 = true := by decide +kernel
theorem ok_28 : funcOk Go.Proofs.Try.prog 28 c28 = true := by decide +kernel
theorem ok_29 : funcOk Go.Proofs.Try.prog 29 c29 = true := by decide +kernel
theorem ok_32 : funcOk Go.Proofs.Try.prog 32 c32 = true := by decide +kernel
theorem ok_33 : funcOk Go.Proofs.Try.prog 33 c33 = true := by decide +kernel
theorem ok_34 : funcOk Go.Proofs.Try.prog 34 c34 = true := by decide +kernel
theorem ok_39 : funcOk Go.Proofs.Try.prog 39 c39 = true := by decide +kernel
theorem ok_43 : funcOk Go.Proofs.Try.prog 43 c43 = true := by decide +kernel
theorem ok_54 : funcOk Go.Proofs.Try.prog 54 c54 = true := by decide +kernel
theorem ok_55 : funcOk Go.Proofs.Try.prog 55 c55 = true := by decide +kernel
theorem ok_56 : funcOk Go.Proofs.Try.prog 56 c56 = true := by decide +kernel
theorem ok_57 : funcOk Go.Proofs.Try.prog 57 c57 = true := by decide +kernel
theorem ok_58 : funcOk Go.Proofs.Try.prog 58 c58 = true := by decide +kernel
theorem ok_59 : funcOk Go.Proofs.Try.prog 59 c59 = true := by decide +kernel
theorem ok_60 : funcOk Go.Proofs.Try.prog 60 c60 = true := by decide +kernel
theorem ok_61 : funcOk Go.Proofs.Try.prog 61 c61 = true := by decide +kernel
theorem ok_62 : funcOk Go.Proofs.Try.prog 62 c62 = true := by decide +kernel
theorem ok_63 : funcOk Go.Proofs.Try.prog 63 c63 = true := by decide +kernel
theorem ok_64 : funcOk Go.Proofs.Try.prog 64 c64 = true := by decide +kernel
theorem ok_65 : funcOk Go.Proofs.Try.prog 65 c65 = true := by decide +kernel
theorem ok_67 : funcOk Go.Proofs.Try.prog 67 c67 = true := by decide +kernel
theorem ok_68 : funcOk Go.Proofs.Try.prog 68 c68 = true := by decide +kernel
theorem ok_72 : funcOk Go.Proofs.Try.prog 72 c72 = true := by decide +kernel
theorem ok_73 : funcOk Go.Proofs.Try.prog 73 c73 = true := by decide +kernel
theorem ok_74 : funcOk Go.Proofs.Try.prog 74 c74 = true := by decide +kernel
theorem ok_76 : funcOk Go.Proofs.Try.prog 76 c76 = true := by decide +kernel
theorem ok_77 : funcOk Go.Proofs.Try.prog 77 c77 = true := by decide +kernel
theorem ok_78 : funcOk Go.Proofs.Try.prog 78 c78 = true := by decide +kernel
theorem ok_79 : funcOk Go.Proofs.Try.prog 79 c79 = true := by decide +kernel
set_option maxRecDepth 20000 in
theorem ok : ∀ f cf, tbl f = some cf → funcOk Go.Proofs.Try.prog f cf = true := by
  intro f cf h
  unfold tbl at h
  split at h
  · cases h; exact ok_3
  · cases h; exact ok_11
  · cases h; exact ok_18
  · cases h; exact ok_20
  · cases h; exact ok_22
  · cases h; exact ok_23
  · cases h; exact ok_24
  · cases h; exact ok_27
  · cases h; exact ok_28
  · cases h; exact ok_29
  · cases h; exact ok_32
  · cases h; exact ok_33
  · cases h; exact ok_34
  · cases h; exact ok_39
  · cases h; exact ok_43
  · cases h; exact ok_54
  · cases h; exact ok_55
  · cases h; exact ok_56
  · cases h; exact ok_57
  · cases h; exact ok_58
  · cases h; exact ok_59
  · cases h; exact ok_60
  · cases h; exact ok_61
  · cases h; exact ok_62
  · cases h; exact ok_63
  · cases h; exact ok_64
  · cases h; exact ok_65
  · cases h; exact ok_67
  · cases h; exact ok_68
  · cases h; exact ok_72
  · cases h; exact ok_73
  · cases h; exact ok_74
  · cases h; exact ok_76
  · cases h; exact ok_77
  · cases h; exact ok_78
  · cases h; exact ok_79
  · cases h
theorem follows : Go.Proofs.Try.prog.follows .mixedOrders = true := by decide +kernel
end Go.Proofs.Ytjeemgaoonapgaa.Ev
