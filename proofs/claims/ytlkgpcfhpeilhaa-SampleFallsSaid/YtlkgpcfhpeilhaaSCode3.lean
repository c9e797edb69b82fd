/-
  The code of the program's functions as the evaluator takes it, printed by wip/tool/emit.py. SCheck ties each to the translation. No condition.
-/
import Derived.Test.YtlkgpcfhpeilhaaEv
namespace Go.Proofs.Ytlkgpcfhpeilhaa.Ev
open Go Go.AEv

-- math/bits.Mul64
-- c72_o0: 0=[] 1=[f]
-- c72_o1: 0=[] 1=[f]
-- c72_o2: 0=[] 1=[f] 6=[t, t]
-- c72_o3: 0=[] 1=[f] 6=[t, t] 7=[f, f, f]
-- c72_o4: 0=[] 1=[f] 6=[t, t] 7=[f, f, f] 8=[t, f, f]
-- c72_o5: 0=[] 1=[f] 6=[t, t] 7=[f, f, f] 8=[t, f, f] 9=[f, t, f]
-- c72_o6: 0=[] 1=[f] 6=[t, t] 7=[f, f, f] 8=[t, f, f] 9=[f, t, f] 10=[t, t, f]
-- c72_o7: 0=[] 1=[f] 6=[t, t] 7=[f, f, f] 9=[f, t, f] 11=[f, f, t]
-- c72_o8: 0=[] 1=[f] 6=[t, t] 7=[f, f, f] 9=[f, t, f] 11=[f, f, t] 12=[t, f, t]
-- c72_o9: 0=[] 1=[f] 6=[t, t] 7=[f, f, f] 9=[f, t, f] 12=[t, f, t] 13=[f, t, t]
-- c72_o10: 0=[] 1=[f] 7=[f, f, f] 9=[f, t, f] 12=[t, f, t] 13=[f, t, t]
-- c72_o11: 0=[] 1=[f] 4=[t, f]
def c72_o0 : CCode := .trim [[], [false]] (.ops [
  ⟨some [true, false], .move (.c (.int .u64 0)), none⟩,
  ⟨some [false, true], .move (.c (.int .u64 0)), none⟩])
def c72_o1 : CCode := .trim [[], [false]] (.ops [
  ⟨some [true, true, true], .move (.s []), none⟩,
  ⟨some [false, false, false, false], .bin .and (.s [true, true, true]) (.c (.int .u64 4294967295)), none⟩,
  ⟨some [true, true], .move (.s [false, false, false, false]), none⟩])
def c72_o2 : CCode := .trim [[], [false], [true, true]] (.ops [
  ⟨some [true, false, false, false], .move (.s []), none⟩,
  ⟨some [false, true, false, false], .bin .shr (.s [true, false, false, false]) (.c (.int .u64 32)), none⟩,
  ⟨some [false, false, false], .move (.s [false, true, false, false]), none⟩])
def c72_o3 : CCode := .trim [[], [false], [true, true], [false, false, false]] (.ops [
  ⟨some [true, true, false, false], .move (.s [false]), none⟩,
  ⟨some [false, false, true, false], .bin .and (.s [true, true, false, false]) (.c (.int .u64 4294967295)), none⟩,
  ⟨some [true, false, false], .move (.s [false, false, true, false]), none⟩])
def c72_o4 : CCode := .trim [[], [false], [true, true], [false, false, false], [true, false, false]] (.ops [
  ⟨some [true, false, true, false], .move (.s [false]), none⟩,
  ⟨some [false, true, true, false], .bin .shr (.s [true, false, true, false]) (.c (.int .u64 32)), none⟩,
  ⟨some [false, true, false], .move (.s [false, true, true, false]), none⟩])
def c72_o5 : CCode := .trim [[], [false], [true, true], [false, false, false], [true, false, false], [false, true, false]] (.ops [
  ⟨some [true, true, true, false], .move (.s [true, true]), none⟩,
  ⟨some [false, false, false, true], .move (.s [true, false, false]), none⟩,
  ⟨some [true, false, false, true], .bin .mul (.s [true, true, true, false]) (.s [false, false, false, true]), none⟩,
  ⟨some [true, true, false], .move (.s [true, false, false, true]), none⟩])
def c72_o6 : CCode := .trim [[], [false], [true, true], [false, false, false], [true, false, false], [false, true, false], [true, true, false]] (.ops [
  ⟨some [false, true, false, true], .move (.s [false, false, false]), none⟩,
  ⟨some [true, true, false, true], .move (.s [true, false, false]), none⟩,
  ⟨some [false, false, true, true], .bin .mul (.s [false, true, false, true]) (.s [true, true, false, true]), none⟩,
  ⟨some [true, false, true, true], .move (.s [true, true, false]), none⟩,
  ⟨some [false, true, true, true], .bin .shr (.s [true, false, true, true]) (.c (.int .u64 32)), none⟩,
  ⟨some [true, true, true, true], .bin .add (.s [false, false, true, true]) (.s [false, true, true, true]), none⟩,
  ⟨some [false, false, true], .move (.s [true, true, true, true]), none⟩])
def c72_o7 : CCode := .trim [[], [false], [true, true], [false, false, false], [false, true, false], [false, false, true]] (.ops [
  ⟨some [false, false, false, false, false], .move (.s [false, false, true]), none⟩,
  ⟨some [true, false, false, false, false], .bin .and (.s [false, false, false, false, false]) (.c (.int .u64 4294967295)), none⟩,
  ⟨some [true, false, true], .move (.s [true, false, false, false, false]), none⟩])
def c72_o8 : CCode := .trim [[], [false], [true, true], [false, false, false], [false, true, false], [false, false, true], [true, false, true]] (.ops [
  ⟨some [false, true, false, false, false], .move (.s [false, false, true]), none⟩,
  ⟨some [true, true, false, false, false], .bin .shr (.s [false, true, false, false, false]) (.c (.int .u64 32)), none⟩,
  ⟨some [false, true, true], .move (.s [true, true, false, false, false]), none⟩])
def c72_o9 : CCode := .trim [[], [false], [true, true], [false, false, false], [false, true, false], [true, false, true], [false, true, true]] (.ops [
  ⟨some [false, false, true, false, false], .move (.s [true, false, true]), none⟩,
  ⟨some [true, false, true, false, false], .move (.s [true, true]), none⟩,
  ⟨some [false, true, true, false, false], .move (.s [false, true, false]), none⟩,
  ⟨some [true, true, true, false, false], .bin .mul (.s [true, false, true, false, false]) (.s [false, true, true, false, false]), none⟩,
  ⟨some [false, false, false, true, false], .bin .add (.s [false, false, true, false, false]) (.s [true, true, true, false, false]), none⟩,
  ⟨some [true, false, true], .move (.s [false, false, false, true, false]), none⟩])
def c72_o10 : CCode := .trim [[], [false], [false, false, false], [false, true, false], [true, false, true], [false, true, true]] (.ops [
  ⟨some [true, false, false, true, false], .move (.s [false, false, false]), none⟩,
  ⟨some [false, true, false, true, false], .move (.s [false, true, false]), none⟩,
  ⟨some [true, true, false, true, false], .bin .mul (.s [true, false, false, true, false]) (.s [false, true, false, true, false]), none⟩,
  ⟨some [false, false, true, true, false], .move (.s [false, true, true]), none⟩,
  ⟨some [true, false, true, true, false], .bin .add (.s [true, true, false, true, false]) (.s [false, false, true, true, false]), none⟩,
  ⟨some [false, true, true, true, false], .move (.s [true, false, true]), none⟩,
  ⟨some [true, true, true, true, false], .bin .shr (.s [false, true, true, true, false]) (.c (.int .u64 32)), none⟩,
  ⟨some [false, false, false, false, true], .bin .add (.s [true, false, true, true, false]) (.s [true, true, true, true, false]), none⟩,
  ⟨some [true, false], .move (.s [false, false, false, false, true]), none⟩])
def c72_o11 : CCode := .trim [[], [false], [true, false]] (.ops [
  ⟨some [true, false, false, false, true], .move (.s []), none⟩,
  ⟨some [false, true, false, false, true], .move (.s [false]), none⟩,
  ⟨some [true, true, false, false, true], .bin .mul (.s [true, false, false, false, true]) (.s [false, true, false, false, true]), none⟩,
  ⟨some [false, true], .move (.s [true, true, false, false, true]), none⟩])
def c72 : CFunc := { params := [[], [false]], results := [.slot [true, false], .slot [false, true]], shared := false, body := (.seq c72_o0
 (.seq c72_o1
 (.seq c72_o2
 (.seq c72_o3
 (.seq c72_o4
 (.seq c72_o5
 (.seq c72_o6
 (.seq c72_o7
 (.seq c72_o8
 (.seq c72_o9
 (.seq c72_o10
 (.seq c72_o11
 .ret)))))))))))) }

end Go.Proofs.Ytlkgpcfhpeilhaa.Ev
