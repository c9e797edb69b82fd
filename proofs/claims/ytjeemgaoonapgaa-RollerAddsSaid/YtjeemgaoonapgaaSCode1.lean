/-
  The code of the program's functions as the evaluator takes it, printed by wip/tool/emit.py. SCheck ties each to the translation. No condition.
-/
import Derived.Test.YtjeemgaoonapgaaEv
namespace Go.Proofs.Ytjeemgaoonapgaa.Ev
open Go Go.AEv
set_option linter.unusedVariables false

private abbrev r := List.range

-- (numnah/roller.matrix).one
-- c72_o0: 0=[]
-- c72_o1: 1=[f] 2=[t]
-- c72_o2: 1=[f] 2=[t] 3=[f, f]
-- c72_o3: 2=[t] 3=[f, f] 6=[t, t] 7=[f, f, f]
-- c72_o4: 2=[t] 3=[f, f] 6=[t, t] 7=[f, f, f]
-- c72_o5: 2=[t] 3=[f, f] 4=[t, f] 6=[t, t] 7=[f, f, f]
-- c72_o6: 2=[t] 3=[f, f] 6=[t, t] 7=[f, f, f]
-- c72_l0: live slots [2, 3, 6, 7]
-- c72_o7: 2=[t] 3=[f, f]
def c72_o0 : CCode := (fun (f t : Bool) => (.trim [[]] (.ops [
  ⟨some [f], .box none (.s []), none⟩,
  ⟨some [t], .alloc none (List.replicate 64 (.int .i64 0)), none⟩]) : CCode)) false true
def c72_o1 : CCode := (fun (f t : Bool) => (.trim [[f], [t]] (.ops [
  ⟨some [f, f], .alloc none (List.replicate 64 (.int .i64 0)), none⟩]) : CCode)) false true
def c72_o2 : CCode := (fun (f t : Bool) => (.trim [[f], [t], [f, f]] (.ops [
  ⟨some [f, t], .fieldAddr 0 (.s [f]), none⟩,
  ⟨some [t, t], .load none (.s [f, t]), none⟩,
  ⟨some [f, f, f], .move (.c (.int .i64 0)), none⟩]) : CCode)) false true
def c72_o3 : CCode := (fun (f t : Bool) => (.trim [[t], [f, f], [t, t], [f, f, f]] (.ops [
  ⟨some [t, f, f], .bin .lss (.s [f, f, f]) (.s [t, t]), none⟩]) : CCode)) false true
def c72_o4 : CCode := (fun (f t : Bool) => (.trim [[t], [f, f], [t, t], [f, f, f]] (.ops [
  ⟨some [f, t, f], .move (.s [f, f, f]), none⟩,
  ⟨some [t, f], .move (.s [f, t, f]), none⟩]) : CCode)) false true
def c72_o5 : CCode := (fun (f t : Bool) => (.trim [[t], [f, f], [t, f], [t, t], [f, f, f]] (.ops [
  ⟨some [t, t, f], .move (.s [t, f]), none⟩,
  ⟨some [f, f, t], .move (.s [t, f]), none⟩,
  ⟨some [t, f, t], .idxArr 8 8 (.s [f, f]) (.s [t, t, f]), none⟩,
  ⟨some [f, t, t], .idxArr 8 1 (.s [t, f, t]) (.s [f, f, t]), none⟩,
  ⟨none, .store 1 (.s [f, t, t]) (.c (.int .i64 1)), none⟩]) : CCode)) false true
def c72_o6 : CCode := (fun (f t : Bool) => (.trim [[t], [f, f], [t, t], [f, f, f]] (.ops [
  ⟨some [t, t, t], .bin .add (.s [f, f, f]) (.c (.int .i64 1)), none⟩,
  ⟨some [f, f, f], .move (.s [t, t, t]), none⟩]) : CCode)) false true
def c72_b0 : CCode := (fun (f t : Bool) => ((.seq c72_o3
 (.seq (.cond (.s [t, f, f]) .skip (.exit 0))
 (.seq (.block 1 (.seq c72_o4
 c72_o5))
 c72_o6))) : CCode)) false true
def c72_l0 : CCode := (fun (f t : Bool) => (.loop [[t], [f, f], [t, t], [f, f, f]] c72_b0 : CCode)) false true
def c72_o7 : CCode := (fun (f t : Bool) => (.trim [[t], [f, f]] (.ops [
  ⟨some [f, f, f, f], .load (some 64) (.s [f, f]), none⟩,
  ⟨none, .store 64 (.s [t]) (.s [f, f, f, f]), none⟩]) : CCode)) false true
def c72 : CFunc := (fun (f t : Bool) => ({ params := [[]], results := [.cell [t] (some 64)], shared := f, body := (.seq c72_o0
 (.seq c72_o1
 (.seq (.seq c72_o2
 (.block 0 c72_l0))
 (.seq c72_o7
 .ret)))) } : CFunc)) false true
-- (numnah/roller.matrix).product
-- c73_o0: 0=[] 1=[f] 2=[t]
-- c73_o1: 3=[f, f] 4=[t, f] 5=[f, t] 6=[t, t]
-- c73_o2: 3=[f, f] 4=[t, f] 5=[f, t] 6=[t, t] 8=[t, f, f]
-- c73_o3: 3=[f, f] 4=[t, f] 5=[f, t] 6=[t, t] 8=[t, f, f] 15=[f, f, f, f] 16=[t, f, f, f]
-- c73_o4: 3=[f, f] 4=[t, f] 5=[f, t] 6=[t, t] 8=[t, f, f] 15=[f, f, f, f] 16=[t, f, f, f]
-- c73_o5: 3=[f, f] 4=[t, f] 5=[f, t] 6=[t, t] 8=[t, f, f] 9=[f, t, f] 15=[f, f, f, f] 16=[t, f, f, f]
-- c73_o6: 3=[f, f] 4=[t, f] 5=[f, t] 6=[t, t] 8=[t, f, f] 9=[f, t, f] 15=[f, f, f, f] 16=[t, f, f, f] 20=[t, f, t, f] 21=[f, t, t, f]
-- c73_o7: 3=[f, f] 4=[t, f] 5=[f, t] 6=[t, t] 8=[t, f, f] 9=[f, t, f] 15=[f, f, f, f] 16=[t, f, f, f] 20=[t, f, t, f] 21=[f, t, t, f]
-- c73_o8: 3=[f, f] 4=[t, f] 5=[f, t] 6=[t, t] 8=[t, f, f] 9=[f, t, f] 10=[t, t, f] 15=[f, f, f, f] 16=[t, f, f, f] 20=[t, f, t, f] 21=[f, t, t, f]
-- c73_o9: 3=[f, f] 4=[t, f] 5=[f, t] 6=[t, t] 8=[t, f, f] 9=[f, t, f] 10=[t, t, f] 15=[f, f, f, f] 16=[t, f, f, f] 20=[t, f, t, f] 21=[f, t, t, f] 25=[f, t, f, t] 26=[t, t, f, t]
-- c73_o10: 3=[f, f] 4=[t, f] 5=[f, t] 6=[t, t] 8=[t, f, f] 9=[f, t, f] 10=[t, t, f] 15=[f, f, f, f] 16=[t, f, f, f] 20=[t, f, t, f] 21=[f, t, t, f] 25=[f, t, f, t] 26=[t, t, f, t]
-- c73_o11: 3=[f, f] 4=[t, f] 5=[f, t] 6=[t, t] 8=[t, f, f] 9=[f, t, f] 10=[t, t, f] 11=[f, f, t] 15=[f, f, f, f] 16=[t, f, f, f] 20=[t, f, t, f] 21=[f, t, t, f] 25=[f, t, f, t] 26=[t, t, f, t]
-- c73_o12: 3=[f, f] 4=[t, f] 5=[f, t] 6=[t, t] 8=[t, f, f] 9=[f, t, f] 10=[t, t, f] 12=[t, f, t] 13=[f, t, t] 15=[f, f, f, f] 16=[t, f, f, f] 20=[t, f, t, f] 21=[f, t, t, f] 25=[f, t, f, t] 26=[t, t, f, t]
-- c73_o13: 6=[t, t]
-- c73_o14: 3=[f, f] 4=[t, f] 5=[f, t] 6=[t, t] 8=[t, f, f] 9=[f, t, f] 10=[t, t, f] 12=[t, f, t] 13=[f, t, t] 15=[f, f, f, f] 16=[t, f, f, f] 20=[t, f, t, f] 21=[f, t, t, f] 25=[f, t, f, t] 26=[t, t, f, t]
-- c73_o15: 3=[f, f] 4=[t, f] 5=[f, t] 6=[t, t] 8=[t, f, f] 9=[f, t, f] 10=[t, t, f] 15=[f, f, f, f] 16=[t, f, f, f] 20=[t, f, t, f] 21=[f, t, t, f] 25=[f, t, f, t] 26=[t, t, f, t]
-- c73_o16: 6=[t, t]
-- c73_o17: 3=[f, f] 4=[t, f] 5=[f, t] 6=[t, t] 8=[t, f, f] 9=[f, t, f] 10=[t, t, f] 15=[f, f, f, f] 16=[t, f, f, f] 20=[t, f, t, f] 21=[f, t, t, f] 25=[f, t, f, t] 26=[t, t, f, t]
-- c73_l0: live slots [3, 4, 5, 6, 8, 9, 10, 15, 16, 20, 21, 25, 26]
-- c73_o18: 3=[f, f] 4=[t, f] 5=[f, t] 6=[t, t] 8=[t, f, f] 9=[f, t, f] 15=[f, f, f, f] 16=[t, f, f, f] 20=[t, f, t, f] 21=[f, t, t, f]
-- c73_l1: live slots [3, 4, 5, 6, 8, 9, 15, 16, 20, 21]
-- c73_o19: 3=[f, f] 4=[t, f] 5=[f, t] 6=[t, t] 8=[t, f, f] 15=[f, f, f, f] 16=[t, f, f, f]
-- c73_l2: live slots [3, 4, 5, 6, 8, 15, 16]
-- c73_o20: 6=[t, t] 8=[t, f, f]
def c73_o0 : CCode := (fun (f t : Bool) => (.trim [[], [f], [t]] (.ops [
  ⟨some [f, f], .box none (.s []), none⟩,
  ⟨some [t, f], .box none (.s [f]), none⟩,
  ⟨some [f, t], .box none (.s [t]), none⟩,
  ⟨some [t, t], .alloc none (List.replicate 64 (.int .i64 0)), none⟩,
  ⟨some [f, f, f], .move (.c (.bool f)), none⟩]) : CCode)) false true
def c73_o1 : CCode := (fun (f t : Bool) => (.trim [[f, f], [t, f], [f, t], [t, t]] (.ops [
  ⟨some [t, f, f], .alloc none (List.replicate 64 (.int .i64 0)), none⟩]) : CCode)) false true
def c73_o2 : CCode := (fun (f t : Bool) => (.trim [[f, f], [t, f], [f, t], [t, t], [t, f, f]] (.ops [
  ⟨some [t, t, t], .fieldAddr 0 (.s [f, f]), none⟩,
  ⟨some [f, f, f, f], .load none (.s [t, t, t]), none⟩,
  ⟨some [t, f, f, f], .move (.c (.int .i64 0)), none⟩]) : CCode)) false true
def c73_o3 : CCode := (fun (f t : Bool) => (.trim [[f, f], [t, f], [f, t], [t, t], [t, f, f], [f, f, f, f], [t, f, f, f]] (.ops [
  ⟨some [f, t, f, f], .bin .lss (.s [t, f, f, f]) (.s [f, f, f, f]), none⟩]) : CCode)) false true
def c73_o4 : CCode := (fun (f t : Bool) => (.trim [[f, f], [t, f], [f, t], [t, t], [t, f, f], [f, f, f, f], [t, f, f, f]] (.ops [
  ⟨some [t, t, f, f], .move (.s [t, f, f, f]), none⟩,
  ⟨some [f, t, f], .move (.s [t, t, f, f]), none⟩]) : CCode)) false true
def c73_o5 : CCode := (fun (f t : Bool) => (.trim [[f, f], [t, f], [f, t], [t, t], [t, f, f], [f, t, f], [f, f, f, f], [t, f, f, f]] (.ops [
  ⟨some [f, f, t, f], .fieldAddr 0 (.s [f, f]), none⟩,
  ⟨some [t, f, t, f], .load none (.s [f, f, t, f]), none⟩,
  ⟨some [f, t, t, f], .move (.c (.int .i64 0)), none⟩]) : CCode)) false true
def c73_o6 : CCode := (fun (f t : Bool) => (.trim [[f, f], [t, f], [f, t], [t, t], [t, f, f], [f, t, f], [f, f, f, f], [t, f, f, f], [t, f, t, f], [f, t, t, f]] (.ops [
  ⟨some [t, t, t, f], .bin .lss (.s [f, t, t, f]) (.s [t, f, t, f]), none⟩]) : CCode)) false true
def c73_o7 : CCode := (fun (f t : Bool) => (.trim [[f, f], [t, f], [f, t], [t, t], [t, f, f], [f, t, f], [f, f, f, f], [t, f, f, f], [t, f, t, f], [f, t, t, f]] (.ops [
  ⟨some [f, f, f, t], .move (.s [f, t, t, f]), none⟩,
  ⟨some [t, t, f], .move (.s [f, f, f, t]), none⟩]) : CCode)) false true
def c73_o8 : CCode := (fun (f t : Bool) => (.trim [[f, f], [t, f], [f, t], [t, t], [t, f, f], [f, t, f], [t, t, f], [f, f, f, f], [t, f, f, f], [t, f, t, f], [f, t, t, f]] (.ops [
  ⟨some [t, f, f, t], .fieldAddr 0 (.s [f, f]), none⟩,
  ⟨some [f, t, f, t], .load none (.s [t, f, f, t]), none⟩,
  ⟨some [t, t, f, t], .move (.c (.int .i64 0)), none⟩]) : CCode)) false true
def c73_o9 : CCode := (fun (f t : Bool) => (.trim [[f, f], [t, f], [f, t], [t, t], [t, f, f], [f, t, f], [t, t, f], [f, f, f, f], [t, f, f, f], [t, f, t, f], [f, t, t, f], [f, t, f, t], [t, t, f, t]] (.ops [
  ⟨some [f, f, t, t], .bin .lss (.s [t, t, f, t]) (.s [f, t, f, t]), none⟩]) : CCode)) false true
def c73_o10 : CCode := (fun (f t : Bool) => (.trim [[f, f], [t, f], [f, t], [t, t], [t, f, f], [f, t, f], [t, t, f], [f, f, f, f], [t, f, f, f], [t, f, t, f], [f, t, t, f], [f, t, f, t], [t, t, f, t]] (.ops [
  ⟨some [t, f, t, t], .move (.s [t, t, f, t]), none⟩,
  ⟨some [f, f, t], .move (.s [t, f, t, t]), none⟩]) : CCode)) false true
def c73_o11 : CCode := (fun (f t : Bool) => (.trim [[f, f], [t, f], [f, t], [t, t], [t, f, f], [f, t, f], [t, t, f], [f, f, t], [f, f, f, f], [t, f, f, f], [t, f, t, f], [f, t, t, f], [f, t, f, t], [t, t, f, t]] (.draw 0 [
  ⟨some [f, t, t, t], .move (.s [f, t, f]), none⟩,
  ⟨some [t, t, t, t], .move (.s [f, f, t]), none⟩,
  ⟨some [f, f, f, f, f], .idxArr 8 8 (.s [t, f]) (.s [f, t, t, t]), none⟩,
  ⟨some [t, f, f, f, f], .idxArr 8 1 (.s [f, f, f, f, f]) (.s [t, t, t, t]), none⟩,
  ⟨some [f, t, f, f, f], .load none (.s [t, f, f, f, f]), none⟩,
  ⟨some [t, t, f, f, f], .move (.s [f, f, t]), none⟩,
  ⟨some [f, f, t, f, f], .move (.s [t, t, f]), none⟩,
  ⟨some [t, f, t, f, f], .idxArr 8 8 (.s [f, t]) (.s [t, t, f, f, f]), none⟩,
  ⟨some [f, t, t, f, f], .idxArr 8 1 (.s [t, f, t, f, f]) (.s [f, f, t, f, f]), none⟩,
  ⟨some [t, t, t, f, f], .load none (.s [f, t, t, f, f]), none⟩,
  ⟨some [t, f, t], .move (.s [f, t, f, f, f]), none⟩,
  ⟨some [f, t, t], .move (.s [t, t, t, f, f]), none⟩]
  [(4, 9)] [[], [], [0], [0, 1, 2], [0, 1, 2, 3], [], [], [5], [5, 6, 7], [5, 6, 7, 8], (r 5), (r 11)]) : CCode)) false true
def c73_o12 : CCode := (fun (f t : Bool) => (.trim [[f, f], [t, f], [f, t], [t, t], [t, f, f], [f, t, f], [t, t, f], [t, f, t], [f, t, t], [f, f, f, f], [t, f, f, f], [t, f, t, f], [f, t, t, f], [f, t, f, t], [t, t, f, t]] (.ops [
  ⟨some [f, f, f, t, f], .move (.s [f, t, t]), none⟩,
  ⟨some [t, f, f, t, f], .bin .gtr (.s [f, f, f, t, f]) (.c (.int .i64 0)), none⟩,
  ⟨some [f, t, f, t, f], .move (.s [t, f, f, t, f]), none⟩,
  ⟨some [t, t, f, t, f], .move (.s [t, f, t]), some ([f, t, f, t, f], t)⟩,
  ⟨some [f, f, t, t, f], .move (.s [f, t, t]), some ([f, t, f, t, f], t)⟩,
  ⟨some [t, f, t, t, f], .bin .quo (.c (.int .i64 1152921504606846976)) (.s [f, f, t, t, f]), some ([f, t, f, t, f], t)⟩,
  ⟨some [f, t, t, t, f], .bin .gtr (.s [t, t, f, t, f]) (.s [t, f, t, t, f]), some ([f, t, f, t, f], t)⟩,
  ⟨some [t, t, t, t, f], .pick (.s [f, t, f, t, f]) (.s [f, t, t, t, f]) (.c (.bool f)), none⟩]) : CCode)) false true
def c73_o13 : CCode := (fun (f t : Bool) => (.trim [[t, t]] (.ops [
  ⟨some [f, f, f, f, t], .build (List.replicate 64 (.int .i64 0)) [], none⟩,
  ⟨none, .store 64 (.s [t, t]) (.s [f, f, f, f, t]), none⟩,
  ⟨some [f, f, f], .move (.c (.bool f)), none⟩]) : CCode)) false true
def c73_o14 : CCode := (fun (f t : Bool) => (.trim [[f, f], [t, f], [f, t], [t, t], [t, f, f], [f, t, f], [t, t, f], [t, f, t], [f, t, t], [f, f, f, f], [t, f, f, f], [t, f, t, f], [f, t, t, f], [f, t, f, t], [t, t, f, t]] (.draw 0 [
  ⟨some [t, f, f, f, t], .move (.s [f, t, f]), none⟩,
  ⟨some [f, t, f, f, t], .move (.s [t, t, f]), none⟩,
  ⟨some [t, t, f, f, t], .idxArr 8 8 (.s [t, f, f]) (.s [t, f, f, f, t]), none⟩,
  ⟨some [f, f, t, f, t], .idxArr 8 1 (.s [t, t, f, f, t]) (.s [f, t, f, f, t]), none⟩,
  ⟨some [t, f, t, f, t], .load none (.s [f, f, t, f, t]), none⟩,
  ⟨some [f, t, t, f, t], .move (.s [t, f, t]), none⟩,
  ⟨some [t, t, t, f, t], .move (.s [f, t, t]), none⟩,
  ⟨some [f, f, f, t, t], .bin .mul (.s [f, t, t, f, t]) (.s [t, t, t, f, t]), none⟩,
  ⟨some [t, f, f, t, t], .bin .add (.s [t, f, t, f, t]) (.s [f, f, f, t, t]), none⟩,
  ⟨some [f, t, f, t, t], .idxArr 8 8 (.s [t, f, f]) (.s [t, f, f, f, t]), none⟩,
  ⟨some [t, t, f, t, t], .idxArr 8 1 (.s [f, t, f, t, t]) (.s [f, t, f, f, t]), none⟩,
  ⟨none, .store 1 (.s [t, t, f, t, t]) (.s [t, f, f, t, t]), none⟩]
  [] [[], [], [0], [0, 1, 2], [0, 1, 2, 3], [], [], [5, 6], (r 8), [0], (r 10), (r 11)]) : CCode)) false true
def c73_o15 : CCode := (fun (f t : Bool) => (.trim [[f, f], [t, f], [f, t], [t, t], [t, f, f], [f, t, f], [t, t, f], [f, f, f, f], [t, f, f, f], [t, f, t, f], [f, t, t, f], [f, t, f, t], [t, t, f, t]] (.ops [
  ⟨some [f, f, t, t, t], .move (.s [f, t, f]), none⟩,
  ⟨some [t, f, t, t, t], .move (.s [t, t, f]), none⟩,
  ⟨some [f, t, t, t, t], .idxArr 8 8 (.s [t, f, f]) (.s [f, f, t, t, t]), none⟩,
  ⟨some [t, t, t, t, t], .idxArr 8 1 (.s [f, t, t, t, t]) (.s [t, f, t, t, t]), none⟩,
  ⟨some [f, f, f, f, f, f], .load none (.s [t, t, t, t, t]), none⟩,
  ⟨some [t, f, f, f, f, f], .bin .gtr (.s [f, f, f, f, f, f]) (.c (.int .i64 1152921504606846976)), none⟩]) : CCode)) false true
def c73_o16 : CCode := (fun (f t : Bool) => (.trim [[t, t]] (.ops [
  ⟨some [f, t, f, f, f, f], .build (List.replicate 64 (.int .i64 0)) [], none⟩,
  ⟨none, .store 64 (.s [t, t]) (.s [f, t, f, f, f, f]), none⟩,
  ⟨some [f, f, f], .move (.c (.bool f)), none⟩]) : CCode)) false true
def c73_o17 : CCode := (fun (f t : Bool) => (.trim [[f, f], [t, f], [f, t], [t, t], [t, f, f], [f, t, f], [t, t, f], [f, f, f, f], [t, f, f, f], [t, f, t, f], [f, t, t, f], [f, t, f, t], [t, t, f, t]] (.ops [
  ⟨some [t, t, f, f, f, f], .bin .add (.s [t, t, f, t]) (.c (.int .i64 1)), none⟩,
  ⟨some [t, t, f, t], .move (.s [t, t, f, f, f, f]), none⟩]) : CCode)) false true
def c73_b0 : CCode := (fun (f t : Bool) => ((.seq c73_o9
 (.seq (.cond (.s [f, f, t, t]) .skip (.exit 4))
 (.seq (.block 5 (.seq c73_o10
 (.seq c73_o11
 (.seq (.seq c73_o12
 (.cond (.s [t, t, t, t, f]) (.seq c73_o13
 .ret) .skip))
 (.seq c73_o14
 (.seq c73_o15
 (.cond (.s [t, f, f, f, f, f]) (.seq c73_o16
 .ret) .skip)))))))
 c73_o17))) : CCode)) false true
def c73_l0 : CCode := (fun (f t : Bool) => (.loop [[f, f], [t, f], [f, t], [t, t], [t, f, f], [f, t, f], [t, t, f], [f, f, f, f], [t, f, f, f], [t, f, t, f], [f, t, t, f], [f, t, f, t], [t, t, f, t]] c73_b0 : CCode)) false true
def c73_o18 : CCode := (fun (f t : Bool) => (.trim [[f, f], [t, f], [f, t], [t, t], [t, f, f], [f, t, f], [f, f, f, f], [t, f, f, f], [t, f, t, f], [f, t, t, f]] (.ops [
  ⟨some [f, f, t, f, f, f], .bin .add (.s [f, t, t, f]) (.c (.int .i64 1)), none⟩,
  ⟨some [f, t, t, f], .move (.s [f, f, t, f, f, f]), none⟩]) : CCode)) false true
def c73_b1 : CCode := (fun (f t : Bool) => ((.seq c73_o6
 (.seq (.cond (.s [t, t, t, f]) .skip (.exit 2))
 (.seq (.block 3 (.seq c73_o7
 (.seq c73_o8
 (.block 4 c73_l0))))
 c73_o18))) : CCode)) false true
def c73_l1 : CCode := (fun (f t : Bool) => (.loop [[f, f], [t, f], [f, t], [t, t], [t, f, f], [f, t, f], [f, f, f, f], [t, f, f, f], [t, f, t, f], [f, t, t, f]] c73_b1 : CCode)) false true
def c73_o19 : CCode := (fun (f t : Bool) => (.trim [[f, f], [t, f], [f, t], [t, t], [t, f, f], [f, f, f, f], [t, f, f, f]] (.ops [
  ⟨some [t, f, t, f, f, f], .bin .add (.s [t, f, f, f]) (.c (.int .i64 1)), none⟩,
  ⟨some [t, f, f, f], .move (.s [t, f, t, f, f, f]), none⟩]) : CCode)) false true
def c73_b2 : CCode := (fun (f t : Bool) => ((.seq c73_o3
 (.seq (.cond (.s [f, t, f, f]) .skip (.exit 0))
 (.seq (.block 1 (.seq c73_o4
 (.seq c73_o5
 (.block 2 c73_l1))))
 c73_o19))) : CCode)) false true
def c73_l2 : CCode := (fun (f t : Bool) => (.loop [[f, f], [t, f], [f, t], [t, t], [t, f, f], [f, f, f, f], [t, f, f, f]] c73_b2 : CCode)) false true
def c73_o20 : CCode := (fun (f t : Bool) => (.trim [[t, t], [t, f, f]] (.ops [
  ⟨some [f, t, t, f, f, f], .load (some 64) (.s [t, f, f]), none⟩,
  ⟨none, .store 64 (.s [t, t]) (.s [f, t, t, f, f, f]), none⟩,
  ⟨some [f, f, f], .move (.c (.bool t)), none⟩]) : CCode)) false true
def c73 : CFunc := (fun (f t : Bool) => ({ params := [[], [f], [t]], results := [.cell [t, t] (some 64), .slot [f, f, f]], shared := f, body := (.seq c73_o0
 (.seq c73_o1
 (.seq (.seq c73_o2
 (.block 0 c73_l2))
 (.seq c73_o20
 .ret)))) } : CFunc)) false true
-- (numnah/roller.matrix).rows
-- c74_o0: 0=[] 1=[f]
-- c74_o1: 2=[t] 3=[f, f]
-- c74_o2: 2=[t] 3=[f, f] 5=[f, t]
-- c74_o3: 2=[t] 3=[f, f] 5=[f, t] 8=[t, f, f] 9=[f, t, f]
-- c74_o4: 2=[t] 3=[f, f] 5=[f, t] 8=[t, f, f] 9=[f, t, f]
-- c74_o5: 2=[t] 3=[f, f] 5=[f, t] 6=[t, t] 8=[t, f, f] 9=[f, t, f]
-- c74_o6: 2=[t] 3=[f, f] 5=[f, t] 8=[t, f, f] 9=[f, t, f]
-- c74_l0: live slots [2, 3, 5, 8, 9]
-- c74_o7: 5=[f, t]
def c74_o0 : CCode := (fun (f t : Bool) => (.trim [[], [f]] (.ops [
  ⟨some [t], .box none (.s []), none⟩,
  ⟨some [f, f], .box none (.s [f]), none⟩,
  ⟨some [t, f], .move (.c (.nils)), none⟩]) : CCode)) false true
def c74_o1 : CCode := (fun (f t : Bool) => (.trim [[t], [f, f]] (.ops [
  ⟨some [f, t], .move (.c (.nils)), none⟩]) : CCode)) false true
def c74_o2 : CCode := (fun (f t : Bool) => (.trim [[t], [f, f], [f, t]] (.ops [
  ⟨some [f, f, f], .fieldAddr 0 (.s [t]), none⟩,
  ⟨some [t, f, f], .load none (.s [f, f, f]), none⟩,
  ⟨some [f, t, f], .move (.c (.int .i64 0)), none⟩]) : CCode)) false true
def c74_o3 : CCode := (fun (f t : Bool) => (.trim [[t], [f, f], [f, t], [t, f, f], [f, t, f]] (.ops [
  ⟨some [t, t, f], .bin .lss (.s [f, t, f]) (.s [t, f, f]), none⟩]) : CCode)) false true
def c74_o4 : CCode := (fun (f t : Bool) => (.trim [[t], [f, f], [f, t], [t, f, f], [f, t, f]] (.ops [
  ⟨some [f, f, t], .move (.s [f, t, f]), none⟩,
  ⟨some [t, t], .move (.s [f, f, t]), none⟩]) : CCode)) false true
def c74_o5 : CCode := (fun (f t : Bool) => (.trim [[t], [f, f], [f, t], [t, t], [t, f, f], [f, t, f]] (.draw 2 [
  ⟨some [t, f, t], .move (.s [f, t]), none⟩,
  ⟨some [f, t, t], .move (.s [t, t]), none⟩,
  ⟨some [t, t, t], .idxArr 8 8 (.s [f, f]) (.s [f, t, t]), none⟩,
  ⟨some [f, f, f, f], .fieldAddr 0 (.s [t]), none⟩,
  ⟨some [t, f, f, f], .load none (.s [f, f, f, f]), none⟩,
  ⟨some [f, t, f, f], .slArr 8 1 (.s [t, t, t]) none (some (.s [t, f, f, f])), none⟩,
  ⟨some [t, t, f, f], .call f (.c (.func 79 [])) [(.s [f, t, f, f])], none⟩,
  ⟨some [f, f, t, f], .buildSlice (some 0) 1 1 [.nils] [(0, 1, (.s [t, t, f, f]))], none⟩,
  ⟨some [t, f, t, f], .append (some 1) 1 24 (.s [t, f, t]) (.s [f, f, t, f]), none⟩,
  ⟨some [f, t], .move (.s [t, f, t, f]), none⟩]
  [] [[], [], [1], [], [3], [1, 2, 3, 4], [1, 2, 3, 4, 5], [1, 2, 3, 4, 5, 6], (r 8), (r 9)]) : CCode)) false true
def c74_o6 : CCode := (fun (f t : Bool) => (.trim [[t], [f, f], [f, t], [t, f, f], [f, t, f]] (.ops [
  ⟨some [f, t, t, f], .bin .add (.s [f, t, f]) (.c (.int .i64 1)), none⟩,
  ⟨some [f, t, f], .move (.s [f, t, t, f]), none⟩]) : CCode)) false true
def c74_b0 : CCode := (fun (f t : Bool) => ((.seq c74_o3
 (.seq (.cond (.s [t, t, f]) .skip (.exit 0))
 (.seq (.block 1 (.seq c74_o4
 c74_o5))
 c74_o6))) : CCode)) false true
def c74_l0 : CCode := (fun (f t : Bool) => (.loop [[t], [f, f], [f, t], [t, f, f], [f, t, f]] c74_b0 : CCode)) false true
def c74_o7 : CCode := (fun (f t : Bool) => (.trim [[f, t]] (.ops [
  ⟨some [t, t, t, f], .move (.s [f, t]), none⟩,
  ⟨some [t, f], .move (.s [t, t, t, f]), none⟩]) : CCode)) false true
def c74 : CFunc := (fun (f t : Bool) => ({ params := [[], [f]], results := [.slot [t, f]], shared := f, body := (.seq c74_o0
 (.seq c74_o1
 (.seq (.seq c74_o2
 (.block 0 c74_l0))
 (.seq c74_o7
 .ret)))) } : CFunc)) false true
-- numnah/numnahref02.gcd
-- c76_o0: 0=[] 1=[f]
-- c76_o1: 0=[] 1=[f]
-- c76_o2: 0=[] 1=[f]
-- c76_o3: 1=[f] 5=[f, t]
-- c76_o4: 0=[] 5=[f, t]
-- c76_l0: live slots [0, 1]
-- c76_o5: 0=[]
def c76_o0 : CCode := (fun (f t : Bool) => (.trim [[], [f]] (.ops [
  ⟨some [t, f], .move (.c (.int .i64 0)), none⟩]) : CCode)) false true
def c76_o1 : CCode := (fun (f t : Bool) => (.trim [[], [f]] (.ops [
  ⟨some [t, t], .move (.s [f]), none⟩,
  ⟨some [f, f, f], .bin .gtr (.s [t, t]) (.c (.int .i64 0)), none⟩]) : CCode)) false true
def c76_o2 : CCode := (fun (f t : Bool) => (.trim [[], [f]] (.ops [
  ⟨some [t, f, f], .move (.s []), none⟩,
  ⟨some [f, t, f], .move (.s [f]), none⟩,
  ⟨some [t, t, f], .bin .rem (.s [t, f, f]) (.s [f, t, f]), none⟩,
  ⟨some [f, t], .move (.s [t, t, f]), none⟩]) : CCode)) false true
def c76_o3 : CCode := (fun (f t : Bool) => (.trim [[f], [f, t]] (.ops [
  ⟨some [f, f, t], .move (.s [f]), none⟩,
  ⟨some [], .move (.s [f, f, t]), none⟩]) : CCode)) false true
def c76_o4 : CCode := (fun (f t : Bool) => (.trim [[], [f, t]] (.ops [
  ⟨some [t, f, t], .move (.s [f, t]), none⟩,
  ⟨some [f], .move (.s [t, f, t]), none⟩]) : CCode)) false true
def c76_b0 : CCode := (fun (f t : Bool) => ((.seq (.seq c76_o1
 (.cond (.s [f, f, f]) .skip (.exit 0)))
 (.block 1 (.seq c76_o2
 (.seq c76_o3
 c76_o4)))) : CCode)) false true
def c76_l0 : CCode := (fun (f t : Bool) => (.loop [[], [f]] c76_b0 : CCode)) false true
def c76_o5 : CCode := (fun (f t : Bool) => (.trim [[]] (.ops [
  ⟨some [f, t, t], .move (.s []), none⟩,
  ⟨some [t, f], .move (.s [f, t, t]), none⟩]) : CCode)) false true
def c76 : CFunc := (fun (f t : Bool) => ({ params := [[], [f]], results := [.slot [t, f]], shared := f, body := (.seq c76_o0
 (.seq (.block 0 c76_l0)
 (.seq c76_o5
 .ret))) } : CFunc)) false true
-- numnah/roller.newMatrix$1
-- c77_o0: 0=[]
-- c77_o1: 0=[]
def c77_o0 : CCode := (fun (f t : Bool) => (.trim [[]] (.ops [
  ⟨some [t], .move (.c (.bool f)), none⟩]) : CCode)) false true
def c77_o1 : CCode := (fun (f t : Bool) => (.trim [[]] (.ops [
  ⟨some [f, f], .move (.s []), none⟩,
  ⟨some [t, f], .call f (.c (.func 57 [])) [(.s [f, f]), (.c (.int .i64 0)), (.c (.int .i64 9))], none⟩,
  ⟨some [f, t], .un .not (.s [t, f]), none⟩,
  ⟨some [t], .move (.s [f, t]), none⟩]) : CCode)) false true
def c77 : CFunc := (fun (f t : Bool) => ({ params := [[]], results := [.slot [t]], shared := t, body := (.seq c77_o0
 (.seq c77_o1
 .ret)) } : CFunc)) false true
-- slices.IndexFunc[[]int,int]
-- c78_o0: 0=[] 1=[f]
-- c78_o1: 0=[] 1=[f]
-- c78_o2: 0=[] 1=[f] 7=[f, f, f] 8=[t, f, f]
-- c78_o3: 0=[] 1=[f] 7=[f, f, f] 8=[t, f, f]
-- c78_o4: 0=[] 1=[f] 5=[f, t] 7=[f, f, f] 8=[t, f, f]
-- c78_o5: 5=[f, t]
-- c78_o6: 0=[] 1=[f] 7=[f, f, f] 8=[t, f, f]
-- c78_l0: live slots [0, 1, 7, 8]
-- c78_o7: 
def c78_o0 : CCode := (fun (f t : Bool) => (.trim [[], [f]] (.ops [
  ⟨some [t, f], .move (.c (.int .i64 0)), none⟩]) : CCode)) false true
def c78_o1 : CCode := (fun (f t : Bool) => (.trim [[], [f]] (.ops [
  ⟨some [t, t], .move (.s []), none⟩,
  ⟨some [f, f, f], .len 1 (.s [t, t]), none⟩,
  ⟨some [t, f, f], .move (.c (.int .i64 0)), none⟩]) : CCode)) false true
def c78_o2 : CCode := (fun (f t : Bool) => (.trim [[], [f], [f, f, f], [t, f, f]] (.ops [
  ⟨some [f, t, f], .bin .lss (.s [t, f, f]) (.s [f, f, f]), none⟩]) : CCode)) false true
def c78_o3 : CCode := (fun (f t : Bool) => (.trim [[], [f], [f, f, f], [t, f, f]] (.ops [
  ⟨some [t, t, f], .move (.s [t, f, f]), none⟩,
  ⟨some [f, t], .move (.s [t, t, f]), none⟩]) : CCode)) false true
def c78_o4 : CCode := (fun (f t : Bool) => (.trim [[], [f], [f, t], [f, f, f], [t, f, f]] (.ops [
  ⟨some [f, f, t], .move (.s [f]), none⟩,
  ⟨some [t, f, t], .move (.s []), none⟩,
  ⟨some [f, t, t], .move (.s [f, t]), none⟩,
  ⟨some [t, t, t], .idxSl 1 (.s [t, f, t]) (.s [f, t, t]), none⟩,
  ⟨some [f, f, f, f], .load none (.s [t, t, t]), none⟩,
  ⟨some [t, f, f, f], .call f (.s [f, f, t]) [(.s [f, f, f, f])], none⟩]) : CCode)) false true
def c78_o5 : CCode := (fun (f t : Bool) => (.trim [[f, t]] (.ops [
  ⟨some [f, t, f, f], .move (.s [f, t]), none⟩,
  ⟨some [t, f], .move (.s [f, t, f, f]), none⟩]) : CCode)) false true
def c78_o6 : CCode := (fun (f t : Bool) => (.trim [[], [f], [f, f, f], [t, f, f]] (.ops [
  ⟨some [t, t, f, f], .bin .add (.s [t, f, f]) (.c (.int .i64 1)), none⟩,
  ⟨some [t, f, f], .move (.s [t, t, f, f]), none⟩]) : CCode)) false true
def c78_b0 : CCode := (fun (f t : Bool) => ((.seq c78_o2
 (.seq (.cond (.s [f, t, f]) .skip (.exit 0))
 (.seq (.block 1 (.seq c78_o3
 (.seq c78_o4
 (.cond (.s [t, f, f, f]) (.seq c78_o5
 .ret) .skip))))
 c78_o6))) : CCode)) false true
def c78_l0 : CCode := (fun (f t : Bool) => (.loop [[], [f], [f, f, f], [t, f, f]] c78_b0 : CCode)) false true
def c78_o7 : CCode := (fun (f t : Bool) => (.trim [] (.ops [
  ⟨some [t, f], .move (.c (.int .i64 (-1))), none⟩]) : CCode)) false true
def c78 : CFunc := (fun (f t : Bool) => ({ params := [[], [f]], results := [.slot [t, f]], shared := f, body := (.seq c78_o0
 (.seq (.seq c78_o1
 (.block 0 c78_l0))
 (.seq c78_o7
 .ret))) } : CFunc)) false true
-- slices.Clone[[]int,int]
-- c79_o0: 0=[]
-- c79_o1: 0=[]
-- c79_o2: 
-- c79_o3: 0=[]
def c79_o0 : CCode := (fun (f t : Bool) => (.trim [[]] (.ops [
  ⟨some [t], .move (.c (.nils)), none⟩]) : CCode)) false true
def c79_o1 : CCode := (fun (f t : Bool) => (.trim [[]] (.ops [
  ⟨some [f, f], .move (.s []), none⟩,
  ⟨some [t, f], .eqv 2 f (.s [f, f]) (.c (.nils)), none⟩]) : CCode)) false true
def c79_o2 : CCode := (fun (f t : Bool) => (.trim [] (.ops [
  ⟨some [t], .move (.c (.nils)), none⟩]) : CCode)) false true
def c79_o3 : CCode := (fun (f t : Bool) => (.trim [[]] (.ops [
  ⟨some [f, t], .buildSlice none 1 0 [] [], none⟩,
  ⟨some [t, t], .move (.s []), none⟩,
  ⟨some [f, f, f], .append none 1 8 (.s [f, t]) (.s [t, t]), none⟩,
  ⟨some [t], .move (.s [f, f, f]), none⟩]) : CCode)) false true
def c79 : CFunc := (fun (f t : Bool) => ({ params := [[]], results := [.slot [t]], shared := f, body := (.seq c79_o0
 (.seq (.seq c79_o1
 (.cond (.s [t, f]) (.seq c79_o2
 .ret) .skip))
 (.seq c79_o3
 .ret))) } : CFunc)) false true

end Go.Proofs.Ytjeemgaoonapgaa.Ev
