/-
  The code of the program's functions as the evaluator takes it, printed by wip/tool/emit.py. SCheck ties each to the translation. No condition.
-/
import Derived.Test.YtlkgpcfhpeilhaaEv
namespace Go.Proofs.Ytlkgpcfhpeilhaa.Ev
open Go Go.AEv

private abbrev r := List.range

-- math/bits.Mul
-- c69_o0: 0=[] 1=[f]
-- c69_o1: 0=[] 1=[f]
-- c69_o2: 6=[t, t] 7=[f, f, f]
-- c69_o3: 0=[] 1=[f]
-- c69_o4: 8=[t, f, f] 9=[f, t, f]
def c69_o0 : CCode := (fun (f t : Bool) => (.trim [[], [f]] (.ops [
  ⟨some [t, f], .move (.c (.int .u64 0)), none⟩,
  ⟨some [f, t], .move (.c (.int .u64 0)), none⟩]) : CCode)) false true
def c69_o1 : CCode := (fun (f t : Bool) => (.trim [[], [f]] (.ops [
  ⟨some [f, f, t], .move (.s []), none⟩,
  ⟨some [t, f, t], .conv .u32 (.s [f, f, t]), none⟩,
  ⟨some [f, t, t], .move (.s [f]), none⟩,
  ⟨some [t, t, t], .conv .u32 (.s [f, t, t]), none⟩,
  ⟨some [f, f, f, f], .call f (.c (.func 71 [])) [(.s [t, f, t]), (.s [t, t, t])], none⟩,
  ⟨some [t, t, f], .move (.s [f, f, f, f]), none⟩,
  ⟨some [t, f, f, f], .extract 0 (.s [t, t, f]), none⟩,
  ⟨some [f, t, f, f], .extract 1 (.s [t, t, f]), none⟩,
  ⟨some [t, t], .move (.s [t, f, f, f]), none⟩,
  ⟨some [f, f, f], .move (.s [f, t, f, f]), none⟩]) : CCode)) false true
def c69_o2 : CCode := (fun (f t : Bool) => (.trim [[t, t], [f, f, f]] (.ops [
  ⟨some [t, t, f, f], .move (.s [t, t]), none⟩,
  ⟨some [f, f, t, f], .conv .u64 (.s [t, t, f, f]), none⟩,
  ⟨some [t, f, t, f], .move (.s [f, f, f]), none⟩,
  ⟨some [f, t, t, f], .conv .u64 (.s [t, f, t, f]), none⟩,
  ⟨some [t, f], .move (.s [f, f, t, f]), none⟩,
  ⟨some [f, t], .move (.s [f, t, t, f]), none⟩]) : CCode)) false true
def c69_o3 : CCode := (fun (f t : Bool) => (.trim [[], [f]] (.ops [
  ⟨some [f, f, f, t], .move (.s []), none⟩,
  ⟨some [t, f, f, t], .move (.s [f]), none⟩,
  ⟨some [f, t, f, t], .call f (.c (.func 72 [])) [(.s [f, f, f, t]), (.s [t, f, f, t])], none⟩,
  ⟨some [t, t, t, f], .move (.s [f, t, f, t]), none⟩,
  ⟨some [t, t, f, t], .extract 0 (.s [t, t, t, f]), none⟩,
  ⟨some [f, f, t, t], .extract 1 (.s [t, t, t, f]), none⟩,
  ⟨some [t, f, f], .move (.s [t, t, f, t]), none⟩,
  ⟨some [f, t, f], .move (.s [f, f, t, t]), none⟩]) : CCode)) false true
def c69_o4 : CCode := (fun (f t : Bool) => (.trim [[t, f, f], [f, t, f]] (.ops [
  ⟨some [t, f, t, t], .move (.s [t, f, f]), none⟩,
  ⟨some [f, t, t, t], .move (.s [f, t, f]), none⟩,
  ⟨some [t, f], .move (.s [t, f, t, t]), none⟩,
  ⟨some [f, t], .move (.s [f, t, t, t]), none⟩]) : CCode)) false true
def c69 : CFunc := (fun (f t : Bool) => ({ params := [[], [f]], results := [.slot [t, f], .slot [f, t]], shared := f, body := (.seq c69_o0
 (.seq (.cond (.c (.bool f)) (.seq c69_o1
 (.seq c69_o2
 .ret)) .skip)
 (.seq c69_o3
 (.seq c69_o4
 .ret)))) } : CFunc)) false true
-- (*numnah/sample.triangle).stops$1
-- c70_o0: 0=[] 1=[f] 2=[t] 3=[f, f] 4=[t, f]
-- c70_o1: 0=[] 1=[f] 2=[t] 3=[f, f] 4=[t, f] 6=[t, t]
-- c70_o2: 0=[] 1=[f] 2=[t] 3=[f, f] 4=[t, f] 6=[t, t]
-- c70_o3: 0=[] 1=[f] 2=[t] 3=[f, f] 4=[t, f] 6=[t, t] 17=[f, t, f, f] 18=[t, t, f, f]
-- c70_o4: 0=[] 1=[f] 2=[t] 3=[f, f] 4=[t, f] 6=[t, t] 17=[f, t, f, f] 18=[t, t, f, f]
-- c70_o5: 0=[] 1=[f] 2=[t] 3=[f, f] 4=[t, f] 6=[t, t] 7=[f, f, f] 17=[f, t, f, f] 18=[t, t, f, f]
-- c70_o6: 0=[] 1=[f] 2=[t] 3=[f, f] 4=[t, f] 6=[t, t] 7=[f, f, f] 8=[t, f, f] 17=[f, t, f, f] 18=[t, t, f, f]
-- c70_o7: 0=[] 1=[f] 2=[t] 3=[f, f] 4=[t, f] 6=[t, t] 7=[f, f, f] 8=[t, f, f] 17=[f, t, f, f] 18=[t, t, f, f] 23=[f, f, f, t] 24=[t, f, f, t] 25=[f, t, f, t]
-- c70_o8: 0=[] 1=[f] 2=[t] 3=[f, f] 4=[t, f] 6=[t, t] 7=[f, f, f] 8=[t, f, f] 17=[f, t, f, f] 18=[t, t, f, f] 23=[f, f, f, t] 24=[t, f, f, t] 25=[f, t, f, t]
-- c70_o9: 0=[] 1=[f] 2=[t] 3=[f, f] 4=[t, f] 6=[t, t] 7=[f, f, f] 8=[t, f, f] 9=[f, t, f] 10=[t, t, f] 17=[f, t, f, f] 18=[t, t, f, f] 23=[f, f, f, t] 24=[t, f, f, t] 25=[f, t, f, t]
-- c70_o10: 0=[] 1=[f] 2=[t] 3=[f, f] 4=[t, f] 6=[t, t] 7=[f, f, f] 8=[t, f, f] 9=[f, t, f] 10=[t, t, f] 17=[f, t, f, f] 18=[t, t, f, f] 23=[f, f, f, t] 24=[t, f, f, t] 25=[f, t, f, t]
-- c70_o11: 0=[] 1=[f] 2=[t] 3=[f, f] 4=[t, f] 6=[t, t] 7=[f, f, f] 8=[t, f, f] 17=[f, t, f, f] 18=[t, t, f, f] 23=[f, f, f, t] 24=[t, f, f, t] 25=[f, t, f, t]
-- c70_l0: live slots [0, 1, 2, 3, 4, 6, 7, 8, 17, 18, 23, 24, 25]
-- c70_o12: 0=[] 1=[f] 2=[t] 3=[f, f] 4=[t, f] 6=[t, t] 7=[f, f, f] 8=[t, f, f] 17=[f, t, f, f] 18=[t, t, f, f]
-- c70_o13: 0=[] 1=[f] 2=[t] 3=[f, f] 4=[t, f] 6=[t, t] 7=[f, f, f] 8=[t, f, f] 11=[f, f, t] 17=[f, t, f, f] 18=[t, t, f, f]
-- c70_o14: 0=[] 1=[f] 2=[t] 3=[f, f] 4=[t, f] 6=[t, t] 7=[f, f, f] 8=[t, f, f] 11=[f, f, t] 17=[f, t, f, f] 18=[t, t, f, f] 47=[f, f, f, f, t] 48=[t, f, f, f, t]
-- c70_o15: 0=[] 1=[f] 2=[t] 3=[f, f] 4=[t, f] 6=[t, t] 7=[f, f, f] 8=[t, f, f] 11=[f, f, t] 17=[f, t, f, f] 18=[t, t, f, f] 47=[f, f, f, f, t] 48=[t, f, f, f, t]
-- c70_o16: 0=[] 1=[f] 2=[t] 3=[f, f] 4=[t, f] 6=[t, t] 7=[f, f, f] 8=[t, f, f] 11=[f, f, t] 12=[t, f, t] 17=[f, t, f, f] 18=[t, t, f, f] 47=[f, f, f, f, t] 48=[t, f, f, f, t]
-- c70_o17: 0=[] 1=[f] 2=[t] 3=[f, f] 4=[t, f] 6=[t, t] 7=[f, f, f] 8=[t, f, f] 11=[f, f, t] 12=[t, f, t] 13=[f, t, t] 17=[f, t, f, f] 18=[t, t, f, f] 47=[f, f, f, f, t] 48=[t, f, f, f, t]
-- c70_o18: 0=[] 1=[f] 2=[t] 3=[f, f] 4=[t, f] 6=[t, t] 7=[f, f, f] 8=[t, f, f] 11=[f, f, t] 12=[t, f, t] 13=[f, t, t] 17=[f, t, f, f] 18=[t, t, f, f] 47=[f, f, f, f, t] 48=[t, f, f, f, t]
-- c70_o19: 0=[] 1=[f] 2=[t] 3=[f, f] 4=[t, f] 6=[t, t] 7=[f, f, f] 8=[t, f, f] 11=[f, f, t] 12=[t, f, t] 17=[f, t, f, f] 18=[t, t, f, f] 47=[f, f, f, f, t] 48=[t, f, f, f, t]
-- c70_o20: 0=[] 1=[f] 2=[t] 3=[f, f] 4=[t, f] 6=[t, t] 7=[f, f, f] 8=[t, f, f] 11=[f, f, t] 12=[t, f, t] 13=[f, t, t] 17=[f, t, f, f] 18=[t, t, f, f] 47=[f, f, f, f, t] 48=[t, f, f, f, t]
-- c70_o21: 0=[] 1=[f] 2=[t] 3=[f, f] 4=[t, f] 6=[t, t] 7=[f, f, f] 8=[t, f, f] 11=[f, f, t] 12=[t, f, t] 13=[f, t, t] 17=[f, t, f, f] 18=[t, t, f, f] 47=[f, f, f, f, t] 48=[t, f, f, f, t]
-- c70_o22: 0=[] 1=[f] 2=[t] 3=[f, f] 4=[t, f] 6=[t, t] 7=[f, f, f] 8=[t, f, f] 11=[f, f, t] 12=[t, f, t] 17=[f, t, f, f] 18=[t, t, f, f] 47=[f, f, f, f, t] 48=[t, f, f, f, t]
-- c70_o23: 0=[] 1=[f] 2=[t] 3=[f, f] 4=[t, f] 6=[t, t] 7=[f, f, f] 8=[t, f, f] 11=[f, f, t] 17=[f, t, f, f] 18=[t, t, f, f] 47=[f, f, f, f, t] 48=[t, f, f, f, t]
-- c70_l1: live slots [0, 1, 2, 3, 4, 6, 7, 8, 11, 17, 18, 47, 48]
-- c70_o24: 0=[] 1=[f] 2=[t] 3=[f, f] 4=[t, f] 6=[t, t] 7=[f, f, f] 8=[t, f, f] 11=[f, f, t] 17=[f, t, f, f] 18=[t, t, f, f]
-- c70_o25: 0=[] 1=[f] 2=[t] 3=[f, f] 4=[t, f] 6=[t, t] 7=[f, f, f] 11=[f, f, t] 17=[f, t, f, f] 18=[t, t, f, f]
-- c70_o26: 0=[] 1=[f] 2=[t] 3=[f, f] 4=[t, f] 6=[t, t] 17=[f, t, f, f] 18=[t, t, f, f]
-- c70_l2: live slots [0, 1, 2, 3, 4, 6, 17, 18]
def c70_o0 : CCode := (fun (f t : Bool) => (.trim [[], [f], [t], [f, f], [t, f]] (.ops [
  ⟨some [t, t], .alloc none (List.replicate 38 (.int .i64 0)), none⟩]) : CCode)) false true
def c70_o1 : CCode := (fun (f t : Bool) => (.trim [[], [f], [t], [f, f], [t, f], [t, t]] (.ops [
  ⟨some [t, t, t], .idxArr 38 1 (.s [t, t]) (.c (.int .i64 0)), none⟩,
  ⟨none, .store 1 (.s [t, t, t]) (.c (.int .i64 1)), none⟩]) : CCode)) false true
def c70_o2 : CCode := (fun (f t : Bool) => (.trim [[], [f], [t], [f, f], [t, f], [t, t]] (.ops [
  ⟨some [f, f, f, f], .fieldAddr 0 (.s [f]), none⟩,
  ⟨some [t, f, f, f], .load none (.s [f, f, f, f]), none⟩,
  ⟨some [f, t, f, f], .len 1 (.s [t, f, f, f]), none⟩,
  ⟨some [t, t, f, f], .move (.c (.int .i64 0)), none⟩]) : CCode)) false true
def c70_o3 : CCode := (fun (f t : Bool) => (.trim [[], [f], [t], [f, f], [t, f], [t, t], [f, t, f, f], [t, t, f, f]] (.ops [
  ⟨some [f, f, t, f], .bin .lss (.s [t, t, f, f]) (.s [f, t, f, f]), none⟩]) : CCode)) false true
def c70_o4 : CCode := (fun (f t : Bool) => (.trim [[], [f], [t], [f, f], [t, f], [t, t], [f, t, f, f], [t, t, f, f]] (.ops [
  ⟨some [t, f, t, f], .move (.s [t, t, f, f]), none⟩,
  ⟨some [f, f, f], .move (.s [t, f, t, f]), none⟩]) : CCode)) false true
def c70_o5 : CCode := (fun (f t : Bool) => (.trim [[], [f], [t], [f, f], [t, f], [t, t], [f, f, f], [f, t, f, f], [t, t, f, f]] (.ops [
  ⟨some [t, f, f], .alloc none (List.replicate 38 (.int .i64 0)), none⟩]) : CCode)) false true
def c70_o6 : CCode := (fun (f t : Bool) => (.trim [[], [f], [t], [f, f], [t, f], [t, t], [f, f, f], [t, f, f], [f, t, f, f], [t, t, f, f]] (.ops [
  ⟨some [f, t, t, f], .move (.s [f, f, f]), none⟩,
  ⟨some [t, t, t, f], .bin .add (.s [f, t, t, f]) (.c (.int .i64 1)), none⟩,
  ⟨some [f, f, f, t], .slArr 38 1 (.s [t, t]) none (some (.s [t, t, t, f])), none⟩,
  ⟨some [t, f, f, t], .len 1 (.s [f, f, f, t]), none⟩,
  ⟨some [f, t, f, t], .move (.c (.int .i64 0)), none⟩]) : CCode)) false true
def c70_o7 : CCode := (fun (f t : Bool) => (.trim [[], [f], [t], [f, f], [t, f], [t, t], [f, f, f], [t, f, f], [f, t, f, f], [t, t, f, f], [f, f, f, t], [t, f, f, t], [f, t, f, t]] (.ops [
  ⟨some [t, t, f, t], .bin .lss (.s [f, t, f, t]) (.s [t, f, f, t]), none⟩]) : CCode)) false true
def c70_o8 : CCode := (fun (f t : Bool) => (.trim [[], [f], [t], [f, f], [t, f], [t, t], [f, f, f], [t, f, f], [f, t, f, f], [t, t, f, f], [f, f, f, t], [t, f, f, t], [f, t, f, t]] (.ops [
  ⟨some [f, f, t, t], .move (.s [f, t, f, t]), none⟩,
  ⟨some [t, f, t, t], .idxSl 1 (.s [f, f, f, t]) (.s [f, t, f, t]), none⟩,
  ⟨some [f, t, t, t], .load none (.s [t, f, t, t]), none⟩,
  ⟨some [f, t, f], .move (.s [f, f, t, t]), none⟩,
  ⟨some [t, t, f], .move (.s [f, t, t, t]), none⟩]) : CCode)) false true
def c70_o9 : CCode := (fun (f t : Bool) => (.trim [[], [f], [t], [f, f], [t, f], [t, t], [f, f, f], [t, f, f], [f, t, f], [t, t, f], [f, t, f, f], [t, t, f, f], [f, f, f, t], [t, f, f, t], [f, t, f, t]] (.ops [
  ⟨some [t, t, t, t], .move (.s [f, t, f]), none⟩,
  ⟨some [f, f, f, f, f], .idxArr 38 1 (.s [t, f, f]) (.s [t, t, t, t]), none⟩,
  ⟨some [t, f, f, f, f], .load none (.s [f, f, f, f, f]), none⟩,
  ⟨some [f, t, f, f, f], .move (.s [t, t, f]), none⟩,
  ⟨some [t, t, f, f, f], .bin .add (.s [t, f, f, f, f]) (.s [f, t, f, f, f]), none⟩,
  ⟨some [f, f, t, f, f], .idxArr 38 1 (.s [t, f, f]) (.s [t, t, t, t]), none⟩,
  ⟨none, .store 1 (.s [f, f, t, f, f]) (.s [t, t, f, f, f]), none⟩]) : CCode)) false true
def c70_o10 : CCode := (fun (f t : Bool) => (.trim [[], [f], [t], [f, f], [t, f], [t, t], [f, f, f], [t, f, f], [f, t, f], [t, t, f], [f, t, f, f], [t, t, f, f], [f, f, f, t], [t, f, f, t], [f, t, f, t]] (.ops [
  ⟨some [t, f, t, f, f], .move (.s [f, t, f]), none⟩,
  ⟨some [f, t, t, f, f], .bin .add (.s [t, f, t, f, f]) (.c (.int .i64 1)), none⟩,
  ⟨some [t, t, t, f, f], .idxArr 38 1 (.s [t, f, f]) (.s [f, t, t, f, f]), none⟩,
  ⟨some [f, f, f, t, f], .load none (.s [t, t, t, f, f]), none⟩,
  ⟨some [t, f, f, t, f], .move (.s [t, t, f]), none⟩,
  ⟨some [f, t, f, t, f], .bin .add (.s [f, f, f, t, f]) (.s [t, f, f, t, f]), none⟩,
  ⟨some [t, t, f, t, f], .idxArr 38 1 (.s [t, f, f]) (.s [f, t, t, f, f]), none⟩,
  ⟨none, .store 1 (.s [t, t, f, t, f]) (.s [f, t, f, t, f]), none⟩]) : CCode)) false true
def c70_o11 : CCode := (fun (f t : Bool) => (.trim [[], [f], [t], [f, f], [t, f], [t, t], [f, f, f], [t, f, f], [f, t, f, f], [t, t, f, f], [f, f, f, t], [t, f, f, t], [f, t, f, t]] (.ops [
  ⟨some [f, f, t, t, f], .bin .add (.s [f, t, f, t]) (.c (.int .i64 1)), none⟩,
  ⟨some [f, t, f, t], .move (.s [f, f, t, t, f]), none⟩]) : CCode)) false true
def c70_b0 : CCode := (fun (f t : Bool) => ((.seq c70_o7
 (.seq (.cond (.s [t, t, f, t]) .skip (.exit 2))
 (.seq (.block 3 (.seq c70_o8
 (.seq c70_o9
 c70_o10)))
 c70_o11))) : CCode)) false true
def c70_l0 : CCode := (fun (f t : Bool) => (.loop [[], [f], [t], [f, f], [t, f], [t, t], [f, f, f], [t, f, f], [f, t, f, f], [t, t, f, f], [f, f, f, t], [t, f, f, t], [f, t, f, t]] c70_b0 : CCode)) false true
def c70_o12 : CCode := (fun (f t : Bool) => (.trim [[], [f], [t], [f, f], [t, f], [t, t], [f, f, f], [t, f, f], [f, t, f, f], [t, t, f, f]] (.ops [
  ⟨some [f, f, t], .alloc none [.int .i64 0, .int .i64 0], none⟩]) : CCode)) false true
def c70_o13 : CCode := (fun (f t : Bool) => (.trim [[], [f], [t], [f, f], [t, f], [t, t], [f, f, f], [t, f, f], [f, f, t], [f, t, f, f], [t, t, f, f]] (.ops [
  ⟨some [t, f, t, t, f], .move (.s [f, f, f]), none⟩,
  ⟨some [f, t, t, t, f], .bin .add (.s [t, f, t, t, f]) (.c (.int .i64 2)), none⟩,
  ⟨some [t, t, t, t, f], .slArr 38 1 (.s [t, f, f]) none (some (.s [f, t, t, t, f])), none⟩,
  ⟨some [f, f, f, f, t], .len 1 (.s [t, t, t, t, f]), none⟩,
  ⟨some [t, f, f, f, t], .move (.c (.int .i64 0)), none⟩]) : CCode)) false true
def c70_o14 : CCode := (fun (f t : Bool) => (.trim [[], [f], [t], [f, f], [t, f], [t, t], [f, f, f], [t, f, f], [f, f, t], [f, t, f, f], [t, t, f, f], [f, f, f, f, t], [t, f, f, f, t]] (.ops [
  ⟨some [f, t, f, f, t], .bin .lss (.s [t, f, f, f, t]) (.s [f, f, f, f, t]), none⟩]) : CCode)) false true
def c70_o15 : CCode := (fun (f t : Bool) => (.trim [[], [f], [t], [f, f], [t, f], [t, t], [f, f, f], [t, f, f], [f, f, t], [f, t, f, f], [t, t, f, f], [f, f, f, f, t], [t, f, f, f, t]] (.ops [
  ⟨some [t, t, f, f, t], .move (.s [t, f, f, f, t]), none⟩,
  ⟨some [t, f, t], .move (.s [t, t, f, f, t]), none⟩]) : CCode)) false true
def c70_o16 : CCode := (fun (f t : Bool) => (.trim [[], [f], [t], [f, f], [t, f], [t, t], [f, f, f], [t, f, f], [f, f, t], [t, f, t], [f, t, f, f], [t, t, f, f], [f, f, f, f, t], [t, f, f, f, t]] (.draw 0 [
  ⟨some [f, f, t, f, t], .move (.s [t, f, t]), none⟩,
  ⟨some [t, f, t, f, t], .idxArr 38 1 (.s [t, f, f]) (.s [f, f, t, f, t]), none⟩,
  ⟨some [f, t, t, f, t], .load none (.s [t, f, t, f, t]), none⟩,
  ⟨some [t, t, t, f, t], .load none (.s [t]), none⟩,
  ⟨some [f, f, f, t, t], .load none (.s [f, f]), none⟩,
  ⟨some [t, f, f, t, t], .move (.s [f, f, f]), none⟩,
  ⟨some [f, t, f, t, t], .bin .sub (.s [f, f, f, t, t]) (.s [t, f, f, t, t]), none⟩,
  ⟨some [t, t, f, t, t], .bin .sub (.s [f, t, f, t, t]) (.c (.int .i64 1)), none⟩,
  ⟨some [f, f, t, t, t], .load none (.s [t, f]), none⟩,
  ⟨some [t, f, t, t, t], .move (.s [t, f, t]), none⟩,
  ⟨some [f, t, t, t, t], .bin .sub (.s [f, f, t, t, t]) (.s [t, f, t, t, t]), none⟩,
  ⟨some [t, t, t, t, t], .call f (.c (.func 58 [])) [(.s [t, t, t, f, t]), (.s [t, t, f, t, t]), (.s [f, t, t, t, t])], none⟩,
  ⟨some [f, f, f, f, f, f], .bin .mul (.s [f, t, t, f, t]) (.s [t, t, t, t, t]), none⟩,
  ⟨some [f, t, t], .move (.s [f, f, f, f, f, f]), none⟩]
  [(2, 3), (2, 4), (3, 4), (2, 8), (3, 8), (4, 8), (2, 11)] [[], [0], [0, 1], [], [], [], [4, 5], [4, 5, 6], [], [], [8, 9], [3, 4, 5, 6, 7, 8, 9, 10], (r 12), (r 13)]) : CCode)) false true
def c70_o17 : CCode := (fun (f t : Bool) => (.trim [[], [f], [t], [f, f], [t, f], [t, t], [f, f, f], [t, f, f], [f, f, t], [t, f, t], [f, t, t], [f, t, f, f], [t, t, f, f], [f, f, f, f, t], [t, f, f, f, t]] (.ops [
  ⟨some [f, t, f, f, f, f], .move (.s [t, f, t]), none⟩,
  ⟨some [t, t, f, f, f, f], .fieldAddr 0 (.s [f]), none⟩,
  ⟨some [f, f, t, f, f, f], .load none (.s [t, t, f, f, f, f]), none⟩,
  ⟨some [t, f, t, f, f, f], .move (.s [f, f, f]), none⟩,
  ⟨some [f, t, t, f, f, f], .idxSl 1 (.s [f, f, t, f, f, f]) (.s [t, f, t, f, f, f]), none⟩,
  ⟨some [t, t, t, f, f, f], .load none (.s [f, t, t, f, f, f]), none⟩,
  ⟨some [f, f, f, t, f, f], .bin .leq (.s [f, t, f, f, f, f]) (.s [t, t, t, f, f, f]), none⟩,
  ⟨some [t, f, f, f, f, f], .move (.s [f, f, f, t, f, f]), none⟩]) : CCode)) false true
def c70_o18 : CCode := (fun (f t : Bool) => (.trim [[], [f], [t], [f, f], [t, f], [t, t], [f, f, f], [t, f, f], [f, f, t], [t, f, t], [f, t, t], [f, t, f, f], [t, t, f, f], [f, f, f, f, t], [t, f, f, f, t]] (.ops [
  ⟨some [t, f, f, t, f, f], .fieldAddr 0 (.s [f, f, t]), none⟩,
  ⟨some [f, t, f, t, f, f], .load none (.s [t, f, f, t, f, f]), none⟩,
  ⟨some [t, t, f, t, f, f], .move (.s [f, t, t]), none⟩,
  ⟨some [f, f, t, t, f, f], .bin .add (.s [f, t, f, t, f, f]) (.s [t, t, f, t, f, f]), none⟩,
  ⟨some [t, f, t, t, f, f], .fieldAddr 0 (.s [f, f, t]), none⟩,
  ⟨none, .store 1 (.s [t, f, t, t, f, f]) (.s [f, f, t, t, f, f]), none⟩]) : CCode)) false true
def c70_o19 : CCode := (fun (f t : Bool) => (.trim [[], [f], [t], [f, f], [t, f], [t, t], [f, f, f], [t, f, f], [f, f, t], [t, f, t], [f, t, f, f], [t, t, f, f], [f, f, f, f, t], [t, f, f, f, t]] (.ops [
  ⟨some [f, t, t, t, f, f], .move (.s [t, f, t]), none⟩,
  ⟨some [t, t, t, t, f, f], .idxArr 38 1 (.s [t, f, f]) (.s [f, t, t, t, f, f]), none⟩,
  ⟨none, .store 1 (.s [t, t, t, t, f, f]) (.c (.int .i64 0)), none⟩]) : CCode)) false true
def c70_o20 : CCode := (fun (f t : Bool) => (.trim [[], [f], [t], [f, f], [t, f], [t, t], [f, f, f], [t, f, f], [f, f, t], [t, f, t], [f, t, t], [f, t, f, f], [t, t, f, f], [f, f, f, f, t], [t, f, f, f, t]] (.ops [
  ⟨some [t, f, f, f, t, f], .move (.s [t, f, t]), none⟩,
  ⟨some [f, t, f, f, t, f], .fieldAddr 1 (.s [f]), none⟩,
  ⟨some [t, t, f, f, t, f], .load none (.s [f, t, f, f, t, f]), none⟩,
  ⟨some [f, f, t, f, t, f], .move (.s [f, f, f]), none⟩,
  ⟨some [t, f, t, f, t, f], .idxSl 1 (.s [t, t, f, f, t, f]) (.s [f, f, t, f, t, f]), none⟩,
  ⟨some [f, t, t, f, t, f], .load none (.s [t, f, t, f, t, f]), none⟩,
  ⟨some [t, t, t, f, t, f], .bin .geq (.s [t, f, f, f, t, f]) (.s [f, t, t, f, t, f]), none⟩,
  ⟨some [f, f, f, f, t, f], .move (.s [t, t, t, f, t, f]), none⟩]) : CCode)) false true
def c70_o21 : CCode := (fun (f t : Bool) => (.trim [[], [f], [t], [f, f], [t, f], [t, t], [f, f, f], [t, f, f], [f, f, t], [t, f, t], [f, t, t], [f, t, f, f], [t, t, f, f], [f, f, f, f, t], [t, f, f, f, t]] (.ops [
  ⟨some [f, f, f, t, t, f], .fieldAddr 1 (.s [f, f, t]), none⟩,
  ⟨some [t, f, f, t, t, f], .load none (.s [f, f, f, t, t, f]), none⟩,
  ⟨some [f, t, f, t, t, f], .move (.s [f, t, t]), none⟩,
  ⟨some [t, t, f, t, t, f], .bin .add (.s [t, f, f, t, t, f]) (.s [f, t, f, t, t, f]), none⟩,
  ⟨some [f, f, t, t, t, f], .fieldAddr 1 (.s [f, f, t]), none⟩,
  ⟨none, .store 1 (.s [f, f, t, t, t, f]) (.s [t, t, f, t, t, f]), none⟩]) : CCode)) false true
def c70_o22 : CCode := (fun (f t : Bool) => (.trim [[], [f], [t], [f, f], [t, f], [t, t], [f, f, f], [t, f, f], [f, f, t], [t, f, t], [f, t, f, f], [t, t, f, f], [f, f, f, f, t], [t, f, f, f, t]] (.ops [
  ⟨some [t, f, t, t, t, f], .move (.s [t, f, t]), none⟩,
  ⟨some [f, t, t, t, t, f], .idxArr 38 1 (.s [t, f, f]) (.s [t, f, t, t, t, f]), none⟩,
  ⟨none, .store 1 (.s [f, t, t, t, t, f]) (.c (.int .i64 0)), none⟩]) : CCode)) false true
def c70_o23 : CCode := (fun (f t : Bool) => (.trim [[], [f], [t], [f, f], [t, f], [t, t], [f, f, f], [t, f, f], [f, f, t], [f, t, f, f], [t, t, f, f], [f, f, f, f, t], [t, f, f, f, t]] (.ops [
  ⟨some [t, t, t, t, t, f], .bin .add (.s [t, f, f, f, t]) (.c (.int .i64 1)), none⟩,
  ⟨some [t, f, f, f, t], .move (.s [t, t, t, t, t, f]), none⟩]) : CCode)) false true
def c70_b1 : CCode := (fun (f t : Bool) => ((.seq c70_o14
 (.seq (.cond (.s [f, t, f, f, t]) .skip (.exit 4))
 (.seq (.block 5 (.seq c70_o15
 (.seq c70_o16
 (.block 6 (.seq c70_o17
 (.cond (.s [t, f, f, f, f, f]) (.seq c70_o18
 c70_o19) (.seq c70_o20
 (.cond (.s [f, f, f, f, t, f]) (.seq c70_o21
 c70_o22) .skip))))))))
 c70_o23))) : CCode)) false true
def c70_l1 : CCode := (fun (f t : Bool) => (.loop [[], [f], [t], [f, f], [t, f], [t, t], [f, f, f], [t, f, f], [f, f, t], [f, t, f, f], [t, t, f, f], [f, f, f, f, t], [t, f, f, f, t]] c70_b1 : CCode)) false true
def c70_o24 : CCode := (fun (f t : Bool) => (.trim [[], [f], [t], [f, f], [t, f], [t, t], [f, f, f], [t, f, f], [f, f, t], [f, t, f, f], [t, t, f, f]] (.ops [
  ⟨some [f, f, f, f, f, t], .load (some 38) (.s [t, f, f]), none⟩,
  ⟨none, .store 38 (.s [t, t]) (.s [f, f, f, f, f, t]), none⟩]) : CCode)) false true
def c70_o25 : CCode := (fun (f t : Bool) => (.trim [[], [f], [t], [f, f], [t, f], [t, t], [f, f, f], [f, f, t], [f, t, f, f], [t, t, f, f]] (.ops [
  ⟨some [t, f, f, f, f, t], .move (.s []), none⟩,
  ⟨some [f, t, f, f, f, t], .move (.s [f, f, f]), none⟩,
  ⟨some [t, t, f, f, f, t], .bin .add (.s [f, t, f, f, f, t]) (.c (.int .i64 1)), none⟩,
  ⟨some [f, f, t, f, f, t], .load (some 2) (.s [f, f, t]), none⟩,
  ⟨some [t, f, t, f, f, t], .call f (.s [t, f, f, f, f, t]) [(.s [t, t, f, f, f, t]), (.s [f, f, t, f, f, t])], none⟩,
  ⟨some [f, t, t, f, f, t], .un .not (.s [t, f, t, f, f, t]), none⟩]) : CCode)) false true
def c70_o26 : CCode := (fun (f t : Bool) => (.trim [[], [f], [t], [f, f], [t, f], [t, t], [f, t, f, f], [t, t, f, f]] (.ops [
  ⟨some [t, t, t, f, f, t], .bin .add (.s [t, t, f, f]) (.c (.int .i64 1)), none⟩,
  ⟨some [t, t, f, f], .move (.s [t, t, t, f, f, t]), none⟩]) : CCode)) false true
def c70_b2 : CCode := (fun (f t : Bool) => ((.seq c70_o3
 (.seq (.cond (.s [f, f, t, f]) .skip (.exit 0))
 (.seq (.block 1 (.seq c70_o4
 (.seq c70_o5
 (.seq (.seq c70_o6
 (.block 2 c70_l0))
 (.seq c70_o12
 (.seq (.seq c70_o13
 (.block 4 c70_l1))
 (.seq c70_o24
 (.seq c70_o25
 (.cond (.s [f, t, t, f, f, t]) .ret .skip)))))))))
 c70_o26))) : CCode)) false true
def c70_l2 : CCode := (fun (f t : Bool) => (.loop [[], [f], [t], [f, f], [t, f], [t, t], [f, t, f, f], [t, t, f, f]] c70_b2 : CCode)) false true
def c70 : CFunc := (fun (f t : Bool) => ({ params := [[], [f], [t], [f, f], [t, f]], results := [], shared := t, body := (.seq c70_o0
 (.seq c70_o1
 (.seq c70_o2
 (.block 0 c70_l2)))) } : CFunc)) false true
-- math/bits.Mul32
-- c71_o0: 0=[] 1=[f]
-- c71_o1: 0=[] 1=[f]
-- c71_o2: 6=[t, t]
def c71_o0 : CCode := (fun (f t : Bool) => (.trim [[], [f]] (.ops [
  ⟨some [t, f], .move (.c (.int .u32 0)), none⟩,
  ⟨some [f, t], .move (.c (.int .u32 0)), none⟩]) : CCode)) false true
def c71_o1 : CCode := (fun (f t : Bool) => (.trim [[], [f]] (.ops [
  ⟨some [f, f, f], .move (.s []), none⟩,
  ⟨some [t, f, f], .conv .u64 (.s [f, f, f]), none⟩,
  ⟨some [f, t, f], .move (.s [f]), none⟩,
  ⟨some [t, t, f], .conv .u64 (.s [f, t, f]), none⟩,
  ⟨some [f, f, t], .bin .mul (.s [t, f, f]) (.s [t, t, f]), none⟩,
  ⟨some [t, t], .move (.s [f, f, t]), none⟩]) : CCode)) false true
def c71_o2 : CCode := (fun (f t : Bool) => (.trim [[t, t]] (.ops [
  ⟨some [t, f, t], .move (.s [t, t]), none⟩,
  ⟨some [f, t, t], .bin .shr (.s [t, f, t]) (.c (.int .u64 32)), none⟩,
  ⟨some [t, t, t], .conv .u32 (.s [f, t, t]), none⟩,
  ⟨some [f, f, f, f], .move (.s [t, t]), none⟩,
  ⟨some [t, f, f, f], .conv .u32 (.s [f, f, f, f]), none⟩,
  ⟨some [t, f], .move (.s [t, t, t]), none⟩,
  ⟨some [f, t], .move (.s [t, f, f, f]), none⟩]) : CCode)) false true
def c71 : CFunc := (fun (f t : Bool) => ({ params := [[], [f]], results := [.slot [t, f], .slot [f, t]], shared := f, body := (.seq c71_o0
 (.seq c71_o1
 (.seq c71_o2
 .ret))) } : CFunc)) false true
-- math/bits.Mul64
-- c72_o0: 0=[] 1=[f]
-- c72_o1: 0=[] 1=[f]
-- c72_o2: 0=[] 1=[f] 6=[t, t]
-- c72_o3: 0=[] 1=[f] 6=[t, t] 7=[f, f, f]
-- c72_o4: 0=[] 1=[f] 6=[t, t] 7=[f, f, f] 8=[t, f, f]
-- c72_o5: 0=[] 1=[f] 6=[t, t] 7=[f, f, f] 8=[t, f, f] 9=[f, t, f]
-- c72_o6: 0=[] 1=[f] 6=[t, t] 7=[f, f, f] 8=[t, f, f] 9=[f, t, f] 10=[t, t, f]
-- c72_o7: 0=[] 1=[f] 6=[t, t] 7=[f, f, f] 9=[f, t, f] 11=[f, f, t]
-- c72_o8: 0=[] 1=[f] 6=[t, t] 7=[f, f, f] 9=[f, t, f] 11=[f, f, t] 12=[t, f, t]
-- c72_o9: 0=[] 1=[f] 6=[t, t] 7=[f, f, f] 9=[f, t, f] 12=[t, f, t] 13=[f, t, t]
-- c72_o10: 0=[] 1=[f] 7=[f, f, f] 9=[f, t, f] 12=[t, f, t] 13=[f, t, t]
-- c72_o11: 0=[] 1=[f] 4=[t, f]
def c72_o0 : CCode := (fun (f t : Bool) => (.trim [[], [f]] (.ops [
  ⟨some [t, f], .move (.c (.int .u64 0)), none⟩,
  ⟨some [f, t], .move (.c (.int .u64 0)), none⟩]) : CCode)) false true
def c72_o1 : CCode := (fun (f t : Bool) => (.trim [[], [f]] (.ops [
  ⟨some [t, t, t], .move (.s []), none⟩,
  ⟨some [f, f, f, f], .bin .and (.s [t, t, t]) (.c (.int .u64 4294967295)), none⟩,
  ⟨some [t, t], .move (.s [f, f, f, f]), none⟩]) : CCode)) false true
def c72_o2 : CCode := (fun (f t : Bool) => (.trim [[], [f], [t, t]] (.ops [
  ⟨some [t, f, f, f], .move (.s []), none⟩,
  ⟨some [f, t, f, f], .bin .shr (.s [t, f, f, f]) (.c (.int .u64 32)), none⟩,
  ⟨some [f, f, f], .move (.s [f, t, f, f]), none⟩]) : CCode)) false true
def c72_o3 : CCode := (fun (f t : Bool) => (.trim [[], [f], [t, t], [f, f, f]] (.ops [
  ⟨some [t, t, f, f], .move (.s [f]), none⟩,
  ⟨some [f, f, t, f], .bin .and (.s [t, t, f, f]) (.c (.int .u64 4294967295)), none⟩,
  ⟨some [t, f, f], .move (.s [f, f, t, f]), none⟩]) : CCode)) false true
def c72_o4 : CCode := (fun (f t : Bool) => (.trim [[], [f], [t, t], [f, f, f], [t, f, f]] (.ops [
  ⟨some [t, f, t, f], .move (.s [f]), none⟩,
  ⟨some [f, t, t, f], .bin .shr (.s [t, f, t, f]) (.c (.int .u64 32)), none⟩,
  ⟨some [f, t, f], .move (.s [f, t, t, f]), none⟩]) : CCode)) false true
def c72_o5 : CCode := (fun (f t : Bool) => (.trim [[], [f], [t, t], [f, f, f], [t, f, f], [f, t, f]] (.ops [
  ⟨some [t, t, t, f], .move (.s [t, t]), none⟩,
  ⟨some [f, f, f, t], .move (.s [t, f, f]), none⟩,
  ⟨some [t, f, f, t], .bin .mul (.s [t, t, t, f]) (.s [f, f, f, t]), none⟩,
  ⟨some [t, t, f], .move (.s [t, f, f, t]), none⟩]) : CCode)) false true
def c72_o6 : CCode := (fun (f t : Bool) => (.trim [[], [f], [t, t], [f, f, f], [t, f, f], [f, t, f], [t, t, f]] (.ops [
  ⟨some [f, t, f, t], .move (.s [f, f, f]), none⟩,
  ⟨some [t, t, f, t], .move (.s [t, f, f]), none⟩,
  ⟨some [f, f, t, t], .bin .mul (.s [f, t, f, t]) (.s [t, t, f, t]), none⟩,
  ⟨some [t, f, t, t], .move (.s [t, t, f]), none⟩,
  ⟨some [f, t, t, t], .bin .shr (.s [t, f, t, t]) (.c (.int .u64 32)), none⟩,
  ⟨some [t, t, t, t], .bin .add (.s [f, f, t, t]) (.s [f, t, t, t]), none⟩,
  ⟨some [f, f, t], .move (.s [t, t, t, t]), none⟩]) : CCode)) false true
def c72_o7 : CCode := (fun (f t : Bool) => (.trim [[], [f], [t, t], [f, f, f], [f, t, f], [f, f, t]] (.ops [
  ⟨some [f, f, f, f, f], .move (.s [f, f, t]), none⟩,
  ⟨some [t, f, f, f, f], .bin .and (.s [f, f, f, f, f]) (.c (.int .u64 4294967295)), none⟩,
  ⟨some [t, f, t], .move (.s [t, f, f, f, f]), none⟩]) : CCode)) false true
def c72_o8 : CCode := (fun (f t : Bool) => (.trim [[], [f], [t, t], [f, f, f], [f, t, f], [f, f, t], [t, f, t]] (.ops [
  ⟨some [f, t, f, f, f], .move (.s [f, f, t]), none⟩,
  ⟨some [t, t, f, f, f], .bin .shr (.s [f, t, f, f, f]) (.c (.int .u64 32)), none⟩,
  ⟨some [f, t, t], .move (.s [t, t, f, f, f]), none⟩]) : CCode)) false true
def c72_o9 : CCode := (fun (f t : Bool) => (.trim [[], [f], [t, t], [f, f, f], [f, t, f], [t, f, t], [f, t, t]] (.ops [
  ⟨some [f, f, t, f, f], .move (.s [t, f, t]), none⟩,
  ⟨some [t, f, t, f, f], .move (.s [t, t]), none⟩,
  ⟨some [f, t, t, f, f], .move (.s [f, t, f]), none⟩,
  ⟨some [t, t, t, f, f], .bin .mul (.s [t, f, t, f, f]) (.s [f, t, t, f, f]), none⟩,
  ⟨some [f, f, f, t, f], .bin .add (.s [f, f, t, f, f]) (.s [t, t, t, f, f]), none⟩,
  ⟨some [t, f, t], .move (.s [f, f, f, t, f]), none⟩]) : CCode)) false true
def c72_o10 : CCode := (fun (f t : Bool) => (.trim [[], [f], [f, f, f], [f, t, f], [t, f, t], [f, t, t]] (.ops [
  ⟨some [t, f, f, t, f], .move (.s [f, f, f]), none⟩,
  ⟨some [f, t, f, t, f], .move (.s [f, t, f]), none⟩,
  ⟨some [t, t, f, t, f], .bin .mul (.s [t, f, f, t, f]) (.s [f, t, f, t, f]), none⟩,
  ⟨some [f, f, t, t, f], .move (.s [f, t, t]), none⟩,
  ⟨some [t, f, t, t, f], .bin .add (.s [t, t, f, t, f]) (.s [f, f, t, t, f]), none⟩,
  ⟨some [f, t, t, t, f], .move (.s [t, f, t]), none⟩,
  ⟨some [t, t, t, t, f], .bin .shr (.s [f, t, t, t, f]) (.c (.int .u64 32)), none⟩,
  ⟨some [f, f, f, f, t], .bin .add (.s [t, f, t, t, f]) (.s [t, t, t, t, f]), none⟩,
  ⟨some [t, f], .move (.s [f, f, f, f, t]), none⟩]) : CCode)) false true
def c72_o11 : CCode := (fun (f t : Bool) => (.trim [[], [f], [t, f]] (.ops [
  ⟨some [t, f, f, f, t], .move (.s []), none⟩,
  ⟨some [f, t, f, f, t], .move (.s [f]), none⟩,
  ⟨some [t, t, f, f, t], .bin .mul (.s [t, f, f, f, t]) (.s [f, t, f, f, t]), none⟩,
  ⟨some [f, t], .move (.s [t, t, f, f, t]), none⟩]) : CCode)) false true
def c72 : CFunc := (fun (f t : Bool) => ({ params := [[], [f]], results := [.slot [t, f], .slot [f, t]], shared := f, body := (.seq c72_o0
 (.seq c72_o1
 (.seq c72_o2
 (.seq c72_o3
 (.seq c72_o4
 (.seq c72_o5
 (.seq c72_o6
 (.seq c72_o7
 (.seq c72_o8
 (.seq c72_o9
 (.seq c72_o10
 (.seq c72_o11
 .ret)))))))))))) } : CFunc)) false true

end Go.Proofs.Ytlkgpcfhpeilhaa.Ev
