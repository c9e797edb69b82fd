/-
  The code of the program's functions as the evaluator takes it, printed by wip/tool/emit.py. SCheck ties each to the translation. No condition.
-/
import Derived.Test.YtjeemgaoonapgaaEv
namespace Go.Proofs.Ytjeemgaoonapgaa.Ev
open Go Go.AEv
set_option linter.unusedVariables false
private abbrev r := List.range
def c62_o0 : CCode := (fun (f t : Bool) => (.trim [[]] (.ops [
  ⟨some [f], .box none (.s []), none⟩,
  ⟨some [t], .move (.c (.nils)), none⟩]) : CCode)) false true
def c62_o1 : CCode := (fun (f t : Bool) => (.trim [[f]] (.ops [
  ⟨some [t, f, f], .load (some 65) (.s [f]), none⟩,
  ⟨some [f, t, f], .call f (.c (.func 67 [])) [(.s [t, f, f])], none⟩,
  ⟨some [f, f], .alloc none (List.replicate 64 (.bool f)), none⟩,
  ⟨none, .store 64 (.s [f, f]) (.s [f, t, f]), none⟩]) : CCode)) false true
def c62_o2 : CCode := (fun (f t : Bool) => (.trim [[f], [f, f]] (.ops [
  ⟨some [t, f], .move (.c (.nils)), none⟩]) : CCode)) false true
def c62_o3 : CCode := (fun (f t : Bool) => (.trim [[f], [f, f], [t, f]] (.ops [
  ⟨some [t, t, f], .fieldAddr 0 (.s [f]), none⟩,
  ⟨some [f, f, t], .load none (.s [t, t, f]), none⟩,
  ⟨some [t, f, t], .move (.c (.int .i64 0)), none⟩]) : CCode)) false true
def c62_o4 : CCode := (fun (f t : Bool) => (.trim [[f, f], [t, f], [f, f, t], [t, f, t]] (.ops [
  ⟨some [f, t, t], .bin .lss (.s [t, f, t]) (.s [f, f, t]), none⟩]) : CCode)) false true
def c62_o5 : CCode := (fun (f t : Bool) => (.trim [[f, f], [t, f], [f, f, t], [t, f, t]] (.ops [
  ⟨some [t, t, t], .move (.s [t, f, t]), none⟩,
  ⟨some [f, t], .move (.s [t, t, t]), none⟩]) : CCode)) false true
def c62_o6 : CCode := (fun (f t : Bool) => (.trim [[f, f], [t, f], [f, t], [f, f, t], [t, f, t]] (.ops [
  ⟨some [f, f, f, f], .move (.s [f, t]), none⟩,
  ⟨some [t, t], .move (.s [f, f, f, f]), none⟩]) : CCode)) false true
def c62_o7 : CCode := (fun (f t : Bool) => (.trim [[f, f], [t, f], [f, t], [t, t], [f, f, t], [t, f, t]] (.ops [
  ⟨some [t, f, f, f], .move (.s [f, t]), none⟩,
  ⟨some [f, t, f, f], .move (.c (.int .i64 0)), none⟩]) : CCode)) false true
def c62_o8 : CCode := (fun (f t : Bool) => (.trim [[f, f], [t, f], [f, t], [t, t], [f, f, t], [t, f, t], [t, f, f, f], [f, t, f, f]] (.ops [
  ⟨some [t, t, f, f], .bin .lss (.s [f, t, f, f]) (.s [t, f, f, f]), none⟩]) : CCode)) false true
def c62_o9 : CCode := (fun (f t : Bool) => (.trim [[f, f], [t, f], [f, t], [t, t], [f, f, t], [t, f, t], [t, f, f, f], [f, t, f, f]] (.ops [
  ⟨some [f, f, t, f], .move (.s [f, t, f, f]), none⟩,
  ⟨some [f, f, f], .move (.s [f, f, t, f]), none⟩]) : CCode)) false true
def c62_o10 : CCode := (fun (f t : Bool) => (.trim [[f, f], [t, f], [f, t], [t, t], [f, f, f], [f, f, t], [t, f, t], [t, f, f, f], [f, t, f, f]] (.ops [
  ⟨some [t, f, t, f], .move (.s [f, t]), none⟩,
  ⟨some [f, t, t, f], .move (.s [f, f, f]), none⟩,
  ⟨some [t, t, t, f], .idxArr 8 8 (.s [f, f]) (.s [t, f, t, f]), none⟩,
  ⟨some [f, f, f, t], .idxArr 8 1 (.s [t, t, t, f]) (.s [f, t, t, f]), none⟩,
  ⟨some [t, f, f, t], .load none (.s [f, f, f, t]), none⟩,
  ⟨some [f, t, f, t], .move (.s [t, f, f, t]), none⟩,
  ⟨some [t, t, f, t], .move (.s [f, f, f]), some ([f, t, f, t], t)⟩,
  ⟨some [f, f, t, t], .move (.s [f, t]), some ([f, t, f, t], t)⟩,
  ⟨some [t, f, t, t], .idxArr 8 8 (.s [f, f]) (.s [t, t, f, t]), some ([f, t, f, t], t)⟩,
  ⟨some [f, t, t, t], .idxArr 8 1 (.s [t, f, t, t]) (.s [f, f, t, t]), some ([f, t, f, t], t)⟩,
  ⟨some [t, t, t, t], .load none (.s [f, t, t, t]), some ([f, t, f, t], t)⟩,
  ⟨some [f, f, f, f, f], .pick (.s [f, t, f, t]) (.s [t, t, t, t]) (.c (.bool f)), none⟩]) : CCode)) false true
def c62_o11 : CCode := (fun (f t : Bool) => (.trim [[f, f], [t, f], [f, t], [t, t], [f, f, f], [f, f, t], [t, f, t], [t, f, f, f], [f, t, f, f]] (.ops [
  ⟨some [t, f, f, f, f], .move (.s [t, t]), none⟩,
  ⟨some [f, t, f, f, f], .move (.s [f, f, f]), none⟩,
  ⟨some [t, t, f, f, f], .minmax f (.s [t, f, f, f, f]) (.s [f, t, f, f, f]), none⟩,
  ⟨some [t, t], .move (.s [t, t, f, f, f]), none⟩]) : CCode)) false true
def c62_o12 : CCode := (fun (f t : Bool) => (.trim [[f, f], [t, f], [f, t], [t, t], [f, f, t], [t, f, t], [t, f, f, f], [f, t, f, f]] (.ops [
  ⟨some [f, f, t, f, f], .bin .add (.s [f, t, f, f]) (.c (.int .i64 1)), none⟩,
  ⟨some [f, t, f, f], .move (.s [f, f, t, f, f]), none⟩]) : CCode)) false true
def c62_b0 : CCode := (fun (f t : Bool) => ((.seq c62_o8
 (.seq (.cond (.s [t, t, f, f]) .skip (.exit 2))
 (.seq (.block 3 (.seq c62_o9
 (.seq c62_o10
 (.cond (.s [f, f, f, f, f]) c62_o11 .skip))))
 c62_o12))) : CCode)) false true
def c62_l0 : CCode := (fun (f t : Bool) => (.loop [[f, f], [t, f], [f, t], [t, t], [f, f, t], [t, f, t], [t, f, f, f], [f, t, f, f]] c62_b0 : CCode)) false true
def c62_o13 : CCode := (fun (f t : Bool) => (.trim [[f, f], [t, f], [t, t], [f, f, t], [t, f, t]] (.ops [
  ⟨some [t, f, t, f, f], .move (.s [t, f]), none⟩,
  ⟨some [f, t, t, f, f], .move (.s [t, t]), none⟩,
  ⟨some [t, t, t, f, f], .buildSlice none 1 1 [.int .i64 0] [(0, 1, (.s [f, t, t, f, f]))], none⟩,
  ⟨some [f, f, f, t, f], .append none 1 8 (.s [t, f, t, f, f]) (.s [t, t, t, f, f]), none⟩,
  ⟨some [t, f], .move (.s [f, f, f, t, f]), none⟩]) : CCode)) false true
def c62_o14 : CCode := (fun (f t : Bool) => (.trim [[f, f], [t, f], [f, f, t], [t, f, t]] (.ops [
  ⟨some [t, f, f, t, f], .bin .add (.s [t, f, t]) (.c (.int .i64 1)), none⟩,
  ⟨some [t, f, t], .move (.s [t, f, f, t, f]), none⟩]) : CCode)) false true
def c62_b1 : CCode := (fun (f t : Bool) => ((.seq c62_o4
 (.seq (.cond (.s [f, t, t]) .skip (.exit 0))
 (.seq (.block 1 (.seq c62_o5
 (.seq c62_o6
 (.seq (.seq c62_o7
 (.block 2 c62_l0))
 c62_o13))))
 c62_o14))) : CCode)) false true
def c62_l1 : CCode := (fun (f t : Bool) => (.loop [[f, f], [t, f], [f, f, t], [t, f, t]] c62_b1 : CCode)) false true
def c62_o15 : CCode := (fun (f t : Bool) => (.trim [[t, f]] (.ops [
  ⟨some [f, t, f, t, f], .move (.s [t, f]), none⟩,
  ⟨some [t], .move (.s [f, t, f, t, f]), none⟩]) : CCode)) false true
def c62 : CFunc := (fun (f t : Bool) => ({ params := [[]], results := [.slot [t]], shared := f, body := (.seq c62_o0
 (.seq c62_o1
 (.seq c62_o2
 (.seq (.seq c62_o3
 (.block 0 c62_l1))
 (.seq c62_o15
 .ret))))) } : CFunc)) false true
def c63_o0 : CCode := (fun (f t : Bool) => (.trim [[], [f]] (.ops [
  ⟨some [t], .box none (.s []), none⟩,
  ⟨some [t, f], .move (.c (.nils)), none⟩,
  ⟨some [f, t], .move (.c (.int .i64 0)), none⟩]) : CCode)) false true
def c63_o1 : CCode := (fun (f t : Bool) => (.trim [[f], [t]] (.ops [
  ⟨some [t, t, t], .load (some 65) (.s [t]), none⟩,
  ⟨some [f, f, f, f], .call f (.c (.func 62 [])) [(.s [t, t, t])], none⟩,
  ⟨some [t, t], .move (.s [f, f, f, f]), none⟩]) : CCode)) false true
def c63_o2 : CCode := (fun (f t : Bool) => (.trim [[f], [t], [t, t]] (.ops [
  ⟨some [t, f, f, f], .fieldAddr 0 (.s [t]), none⟩,
  ⟨some [f, t, f, f], .load none (.s [t, f, f, f]), none⟩,
  ⟨some [t, t, f, f], .makeSlice none 1 8 [.int .i64 0] (.s [f, t, f, f]), none⟩,
  ⟨some [f, f, f], .move (.s [t, t, f, f]), none⟩]) : CCode)) false true
def c63_o3 : CCode := (fun (f t : Bool) => (.trim [[f], [t], [t, t], [f, f, f]] (.ops [
  ⟨some [f, f, t, f], .move (.s [f, f, f]), none⟩,
  ⟨some [t, f, t, f], .len 1 (.s [f, f, t, f]), none⟩,
  ⟨some [f, t, t, f], .move (.c (.int .i64 0)), none⟩]) : CCode)) false true
def c63_o4 : CCode := (fun (f t : Bool) => (.trim [[f], [t], [t, t], [f, f, f], [t, f, t, f], [f, t, t, f]] (.ops [
  ⟨some [t, t, t, f], .bin .lss (.s [f, t, t, f]) (.s [t, f, t, f]), none⟩]) : CCode)) false true
def c63_o5 : CCode := (fun (f t : Bool) => (.trim [[f], [t], [t, t], [f, f, f], [t, f, t, f], [f, t, t, f]] (.ops [
  ⟨some [f, f, f, t], .move (.s [f, t, t, f]), none⟩,
  ⟨some [t, f, f], .move (.s [f, f, f, t]), none⟩]) : CCode)) false true
def c63_o6 : CCode := (fun (f t : Bool) => (.trim [[f], [t], [t, t], [f, f, f], [t, f, f], [t, f, t, f], [f, t, t, f]] (.ops [
  ⟨some [t, f, f, t], .move (.s [f, f, f]), none⟩,
  ⟨some [f, t, f, t], .move (.s [t, f, f]), none⟩,
  ⟨some [t, t, f, t], .idxSl 1 (.s [t, f, f, t]) (.s [f, t, f, t]), none⟩,
  ⟨none, .store 1 (.s [t, t, f, t]) (.c (.int .i64 (-1))), none⟩]) : CCode)) false true
def c63_o7 : CCode := (fun (f t : Bool) => (.trim [[f], [t], [t, t], [f, f, f], [t, f, t, f], [f, t, t, f]] (.ops [
  ⟨some [f, f, t, t], .bin .add (.s [f, t, t, f]) (.c (.int .i64 1)), none⟩,
  ⟨some [f, t, t, f], .move (.s [f, f, t, t]), none⟩]) : CCode)) false true
def c63_b0 : CCode := (fun (f t : Bool) => ((.seq c63_o4
 (.seq (.cond (.s [t, t, t, f]) .skip (.exit 0))
 (.seq (.block 1 (.seq c63_o5
 c63_o6))
 c63_o7))) : CCode)) false true
def c63_l0 : CCode := (fun (f t : Bool) => (.loop [[f], [t], [t, t], [f, f, f], [t, f, t, f], [f, t, t, f]] c63_b0 : CCode)) false true
def c63_o8 : CCode := (fun (f t : Bool) => (.trim [[f], [t], [t, t], [f, f, f]] (.ops [
  ⟨some [t, f, t, t], .move (.s [f, f, f]), none⟩,
  ⟨some [f, t, t, t], .move (.s [f]), none⟩,
  ⟨some [t, t, t, t], .idxSl 1 (.s [t, f, t, t]) (.s [f, t, t, t]), none⟩,
  ⟨none, .store 1 (.s [t, t, t, t]) (.c (.int .i64 0)), none⟩]) : CCode)) false true
def c63_o9 : CCode := (fun (f t : Bool) => (.trim [[f], [t], [t, t], [f, f, f]] (.ops [
  ⟨some [f, f, f, f, f], .move (.s [f]), none⟩,
  ⟨some [t, f, f, f, f], .buildSlice none 1 1 [.int .i64 0] [(0, 1, (.s [f, f, f, f, f]))], none⟩,
  ⟨some [f, t, f], .move (.s [t, f, f, f, f]), none⟩]) : CCode)) false true
def c63_o10 : CCode := (fun (f t : Bool) => (.trim [[f], [t], [t, t], [f, f, f], [f, t, f]] (.ops [
  ⟨some [t, t, f], .move (.c (.int .i64 0)), none⟩]) : CCode)) false true
def c63_o11 : CCode := (fun (f t : Bool) => (.trim [[f], [t], [t, t], [f, f, f], [f, t, f], [t, t, f]] (.ops [
  ⟨some [f, f, t], .move (.c (.int .i64 0)), none⟩]) : CCode)) false true
def c63_o12 : CCode := (fun (f t : Bool) => (.trim [[f], [t], [t, t], [f, f, f], [f, t, f], [t, t, f], [f, f, t]] (.ops [
  ⟨some [f, t, f, f, f], .move (.s [f, f, t]), none⟩,
  ⟨some [t, t, f, f, f], .move (.s [f, t, f]), none⟩,
  ⟨some [f, f, t, f, f], .len 1 (.s [t, t, f, f, f]), none⟩,
  ⟨some [t, f, t, f, f], .bin .lss (.s [f, t, f, f, f]) (.s [f, f, t, f, f]), none⟩]) : CCode)) false true
def c63_o13 : CCode := (fun (f t : Bool) => (.trim [[f], [t], [t, t], [f, f, f], [f, t, f], [t, t, f], [f, f, t]] (.ops [
  ⟨some [f, f, f, t, f], .move (.s [f, t, f]), none⟩,
  ⟨some [t, f, f, t, f], .move (.s [f, f, t]), none⟩,
  ⟨some [f, t, f, t, f], .idxSl 1 (.s [f, f, f, t, f]) (.s [t, f, f, t, f]), none⟩,
  ⟨some [t, t, f, t, f], .load none (.s [f, t, f, t, f]), none⟩,
  ⟨some [t, f, t], .move (.s [t, t, f, t, f]), none⟩]) : CCode)) false true
def c63_o14 : CCode := (fun (f t : Bool) => (.trim [[f], [t], [t, t], [f, f, f], [f, t, f], [t, t, f], [f, f, t], [t, f, t]] (.ops [
  ⟨some [f, f, t, t, f], .fieldAddr 0 (.s [t]), none⟩,
  ⟨some [t, f, t, t, f], .load none (.s [f, f, t, t, f]), none⟩,
  ⟨some [f, t, t, t, f], .move (.c (.int .i64 0)), none⟩]) : CCode)) false true
def c63_o15 : CCode := (fun (f t : Bool) => (.trim [[f], [t], [t, t], [f, f, f], [f, t, f], [t, t, f], [f, f, t], [t, f, t], [t, f, t, t, f], [f, t, t, t, f]] (.ops [
  ⟨some [t, t, t, t, f], .bin .lss (.s [f, t, t, t, f]) (.s [t, f, t, t, f]), none⟩]) : CCode)) false true
def c63_o16 : CCode := (fun (f t : Bool) => (.trim [[f], [t], [t, t], [f, f, f], [f, t, f], [t, t, f], [f, f, t], [t, f, t], [t, f, t, t, f], [f, t, t, t, f]] (.ops [
  ⟨some [f, f, f, f, t], .move (.s [f, t, t, t, f]), none⟩,
  ⟨some [f, t, t], .move (.s [f, f, f, f, t]), none⟩]) : CCode)) false true
def c63_o17 : CCode := (fun (f t : Bool) => (.trim [[f], [t], [t, t], [f, f, f], [f, t, f], [t, t, f], [f, f, t], [t, f, t], [f, t, t], [t, f, t, t, f], [f, t, t, t, f]] (.draw 0 [
  ⟨some [t, f, f, t, f, f], .move (.s [t, f, t]), none⟩,
  ⟨some [f, t, f, t, f, f], .move (.s [f, t, t]), none⟩,
  ⟨some [t, t, f, t, f, f], .fieldAddr 1 (.s [t]), none⟩,
  ⟨some [f, f, t, t, f, f], .idxArr 8 8 (.s [t, t, f, t, f, f]) (.s [t, f, f, t, f, f]), none⟩,
  ⟨some [t, f, t, t, f, f], .idxArr 8 1 (.s [f, f, t, t, f, f]) (.s [f, t, f, t, f, f]), none⟩,
  ⟨some [f, t, t, t, f, f], .load none (.s [t, f, t, t, f, f]), none⟩,
  ⟨some [t, t, t, t, f, f], .bin .eql (.s [f, t, t, t, f, f]) (.c (.int .i64 0)), none⟩,
  ⟨some [f, f, f, f, t, f], .move (.s [t, t, t, t, f, f]), none⟩,
  ⟨some [t, f, f, f, t, f], .move (.s [t, t]), some ([f, f, f, f, t, f], f)⟩,
  ⟨some [f, t, f, f, t, f], .move (.s [f, t, t]), some ([f, f, f, f, t, f], f)⟩,
  ⟨some [t, t, f, f, t, f], .idxSl 1 (.s [t, f, f, f, t, f]) (.s [f, t, f, f, t, f]), some ([f, f, f, f, t, f], f)⟩,
  ⟨some [f, f, t, f, t, f], .load none (.s [t, t, f, f, t, f]), some ([f, f, f, f, t, f], f)⟩,
  ⟨some [t, f, t, f, t, f], .move (.s [t, t]), some ([f, f, f, f, t, f], f)⟩,
  ⟨some [f, t, t, f, t, f], .move (.s [f]), some ([f, f, f, f, t, f], f)⟩,
  ⟨some [t, t, t, f, t, f], .idxSl 1 (.s [t, f, t, f, t, f]) (.s [f, t, t, f, t, f]), some ([f, f, f, f, t, f], f)⟩,
  ⟨some [f, f, f, t, t, f], .load none (.s [t, t, t, f, t, f]), some ([f, f, f, f, t, f], f)⟩,
  ⟨some [t, f, f, t, t, f], .bin .neq (.s [f, f, t, f, t, f]) (.s [f, f, f, t, t, f]), some ([f, f, f, f, t, f], f)⟩,
  ⟨some [f, t, f, t, t, f], .pick (.s [f, f, f, f, t, f]) (.c (.bool t)) (.s [t, f, f, t, t, f]), none⟩,
  ⟨some [f, f, f, t, f, f], .move (.s [f, t, f, t, t, f]), none⟩]
  [(11, 15)] [[], [], [], [0, 2], [0, 1, 2, 3], (r 5), (r 6), (r 7), (r 8), (r 8), (r 10), (r 11), (r 8), (r 8), (r 8 ++ [12, 13]), (r 8 ++ [12, 13, 14]), (r 16), (r 17), (r 18)]) : CCode)) false true
def c63_o18 : CCode := (fun (f t : Bool) => (.trim [[f], [t], [t, t], [f, f, f], [f, t, f], [t, t, f], [f, f, t], [t, f, t], [f, t, t], [t, f, t, t, f], [f, t, t, t, f]] (.ops [
  ⟨some [f, f, t, t, t, f], .move (.s [f, f, f]), none⟩,
  ⟨some [t, f, t, t, t, f], .move (.s [f, t, t]), none⟩,
  ⟨some [f, t, t, t, t, f], .idxSl 1 (.s [f, f, t, t, t, f]) (.s [t, f, t, t, t, f]), none⟩,
  ⟨some [t, t, t, t, t, f], .load none (.s [f, t, t, t, t, f]), none⟩,
  ⟨some [f, f, f, f, f, t], .bin .lss (.s [t, t, t, t, t, f]) (.c (.int .i64 0)), none⟩,
  ⟨some [t, t, f, t, t, f], .move (.s [f, f, f, f, f, t]), none⟩]) : CCode)) false true
def c63_o19 : CCode := (fun (f t : Bool) => (.trim [[f], [t], [t, t], [f, f, f], [f, t, f], [t, t, f], [f, f, t], [t, f, t], [f, t, t], [t, f, t, t, f], [f, t, t, t, f]] (.ops [
  ⟨some [t, f, f, f, f, t], .move (.s [f, f, f]), none⟩,
  ⟨some [f, t, f, f, f, t], .move (.s [f, t, t]), none⟩,
  ⟨some [t, t, f, f, f, t], .move (.s [f, f, f]), none⟩,
  ⟨some [f, f, t, f, f, t], .move (.s [t, f, t]), none⟩,
  ⟨some [t, f, t, f, f, t], .idxSl 1 (.s [t, t, f, f, f, t]) (.s [f, f, t, f, f, t]), none⟩,
  ⟨some [f, t, t, f, f, t], .load none (.s [t, f, t, f, f, t]), none⟩,
  ⟨some [t, t, t, f, f, t], .bin .add (.s [f, t, t, f, f, t]) (.c (.int .i64 1)), none⟩,
  ⟨some [f, f, f, t, f, t], .idxSl 1 (.s [t, f, f, f, f, t]) (.s [f, t, f, f, f, t]), none⟩,
  ⟨none, .store 1 (.s [f, f, f, t, f, t]) (.s [t, t, t, f, f, t]), none⟩]) : CCode)) false true
def c63_o20 : CCode := (fun (f t : Bool) => (.trim [[f], [t], [t, t], [f, f, f], [f, t, f], [t, t, f], [f, f, t], [t, f, t], [f, t, t], [t, f, t, t, f], [f, t, t, t, f]] (.ops [
  ⟨some [t, f, f, t, f, t], .move (.s [f, t, f]), none⟩,
  ⟨some [f, t, f, t, f, t], .move (.s [f, t, t]), none⟩,
  ⟨some [t, t, f, t, f, t], .buildSlice none 1 1 [.int .i64 0] [(0, 1, (.s [f, t, f, t, f, t]))], none⟩,
  ⟨some [f, f, t, t, f, t], .append none 1 8 (.s [t, f, f, t, f, t]) (.s [t, t, f, t, f, t]), none⟩,
  ⟨some [f, t, f], .move (.s [f, f, t, t, f, t]), none⟩]) : CCode)) false true
def c63_o21 : CCode := (fun (f t : Bool) => (.trim [[f], [t], [t, t], [f, f, f], [f, t, f], [t, t, f], [f, f, t], [t, f, t], [f, t, t], [t, f, t, t, f], [f, t, t, t, f]] (.draw 0 [
  ⟨some [t, f, f, f, t], .move (.s [f, f, f]), none⟩,
  ⟨some [f, t, f, f, t], .move (.s [t, f, t]), none⟩,
  ⟨some [t, t, f, f, t], .idxSl 1 (.s [t, f, f, f, t]) (.s [f, t, f, f, t]), none⟩,
  ⟨some [f, f, t, f, t], .load none (.s [t, t, f, f, t]), none⟩,
  ⟨some [t, f, t, f, t], .bin .add (.s [f, f, t, f, t]) (.c (.int .i64 1)), none⟩,
  ⟨some [f, t, t, f, t], .move (.s [f, f, f]), none⟩,
  ⟨some [t, t, t, f, t], .move (.s [f, t, t]), none⟩,
  ⟨some [f, f, f, t, t], .idxSl 1 (.s [f, t, t, f, t]) (.s [t, t, t, f, t]), none⟩,
  ⟨some [t, f, f, t, t], .load none (.s [f, f, f, t, t]), none⟩,
  ⟨some [f, t, f, t, t], .bin .sub (.s [t, f, t, f, t]) (.s [t, f, f, t, t]), none⟩,
  ⟨some [t, t, f, t, t], .move (.s [f, f, f]), none⟩,
  ⟨some [f, f, t, t, t], .move (.s [f, t, t]), none⟩,
  ⟨some [t, f, t, t, t], .idxSl 1 (.s [t, t, f, t, t]) (.s [f, f, t, t, t]), none⟩,
  ⟨some [f, t, t, t, t], .load none (.s [t, f, t, t, t]), none⟩,
  ⟨some [t, t, t, t, t], .move (.s [f, f, f]), none⟩,
  ⟨some [f, f, f, f, f, f], .move (.s [t, f, t]), none⟩,
  ⟨some [t, f, f, f, f, f], .idxSl 1 (.s [t, t, t, t, t]) (.s [f, f, f, f, f, f]), none⟩,
  ⟨some [f, t, f, f, f, f], .load none (.s [t, f, f, f, f, f]), none⟩,
  ⟨some [t, t, f, f, f, f], .bin .sub (.s [f, t, t, t, t]) (.s [f, t, f, f, f, f]), none⟩,
  ⟨some [f, f, t, f, f, f], .bin .sub (.s [t, t, f, f, f, f]) (.c (.int .i64 1)), none⟩,
  ⟨some [t, f, t, f, f, f], .minmax t (.s [f, t, f, t, t]) (.s [f, f, t, f, f, f]), none⟩,
  ⟨some [f, t, t, f, f, f], .move (.s [t, t, f]), none⟩,
  ⟨some [t, t, t, f, f, f], .call f (.c (.func 60 [])) [(.s [t, f, t, f, f, f]), (.s [f, t, t, f, f, f])], none⟩,
  ⟨some [t, t, f], .move (.s [t, t, t, f, f, f]), none⟩]
  [(3, 8), (3, 13), (8, 13), (3, 17), (8, 17), (13, 17)] [[], [], [0, 1], [0, 1, 2], [0, 1, 2, 3], [], [], [5, 6], [5, 6, 7], (r 9), [], [], [10, 11], [10, 11, 12], [], [], [14, 15], [14, 15, 16], [10, 11, 12, 13, 14, 15, 16, 17], [10, 11, 12, 13, 14, 15, 16, 17, 18], (r 20), [], (r 22), (r 23)]) : CCode)) false true
def c63_o22 : CCode := (fun (f t : Bool) => (.trim [[f], [t], [t, t], [f, f, f], [f, t, f], [t, t, f], [f, f, t], [t, f, t], [t, f, t, t, f], [f, t, t, t, f]] (.ops [
  ⟨some [t, f, t, t, f, t], .bin .add (.s [f, t, t, t, f]) (.c (.int .i64 1)), none⟩,
  ⟨some [f, t, t, t, f], .move (.s [t, f, t, t, f, t]), none⟩]) : CCode)) false true
def c63_b1 : CCode := (fun (f t : Bool) => ((.seq c63_o15
 (.seq (.cond (.s [t, t, t, t, f]) .skip (.exit 4))
 (.seq (.block 5 (.seq c63_o16
 (.block 6 (.seq c63_o17
 (.cond (.s [f, f, f, t, f, f]) .skip (.seq c63_o18
 (.cond (.s [t, t, f, t, t, f]) (.seq c63_o19
 c63_o20) c63_o21)))))))
 c63_o22))) : CCode)) false true
def c63_l1 : CCode := (fun (f t : Bool) => (.loop [[f], [t], [t, t], [f, f, f], [f, t, f], [t, t, f], [f, f, t], [t, f, t], [t, f, t, t, f], [f, t, t, t, f]] c63_b1 : CCode)) false true
def c63_o23 : CCode := (fun (f t : Bool) => (.trim [[f], [t], [t, t], [f, f, f], [f, t, f], [t, t, f], [f, f, t]] (.ops [
  ⟨some [f, t, t, f, f], .move (.s [f, f, t]), none⟩,
  ⟨some [t, t, t, f, f], .bin .add (.s [f, t, t, f, f]) (.c (.int .i64 1)), none⟩,
  ⟨some [f, f, t], .move (.s [t, t, t, f, f]), none⟩]) : CCode)) false true
def c63_b2 : CCode := (fun (f t : Bool) => ((.seq (.seq c63_o12
 (.cond (.s [t, f, t, f, f]) .skip (.exit 2)))
 (.seq (.block 3 (.seq c63_o13
 (.seq c63_o14
 (.block 4 c63_l1))))
 c63_o23)) : CCode)) false true
def c63_l2 : CCode := (fun (f t : Bool) => (.loop [[f], [t], [t, t], [f, f, f], [f, t, f], [t, t, f], [f, f, t]] c63_b2 : CCode)) false true
def c63_o24 : CCode := (fun (f t : Bool) => (.trim [[f, f, f], [t, t, f]] (.ops [
  ⟨some [f, t, t, t, f, t], .move (.s [f, f, f]), none⟩,
  ⟨some [t, t, t, t, f, t], .move (.s [t, t, f]), none⟩,
  ⟨some [t, f], .move (.s [f, t, t, t, f, t]), none⟩,
  ⟨some [f, t], .move (.s [t, t, t, t, f, t]), none⟩]) : CCode)) false true
def c63 : CFunc := (fun (f t : Bool) => ({ params := [[], [f]], results := [.slot [t, f], .slot [f, t]], shared := f, body := (.seq c63_o0
 (.seq c63_o1
 (.seq c63_o2
 (.seq (.seq c63_o3
 (.block 0 c63_l0))
 (.seq c63_o8
 (.seq c63_o9
 (.seq c63_o10
 (.seq (.seq c63_o11
 (.block 2 c63_l2))
 (.seq c63_o24
 .ret))))))))) } : CFunc)) false true
def c64_o0 : CCode := (fun (f t : Bool) => (.trim [[]] (.ops [
  ⟨some [f], .box none (.s []), none⟩,
  ⟨some [t], .alloc none (List.replicate 64 (.bool f)), none⟩]) : CCode)) false true
def c64_o1 : CCode := (fun (f t : Bool) => (.trim [[f], [t]] (.ops [
  ⟨some [f, f], .alloc none (List.replicate 64 (.bool f)), none⟩]) : CCode)) false true
def c64_o2 : CCode := (fun (f t : Bool) => (.trim [[f], [t], [f, f]] (.ops [
  ⟨some [t, t], .fieldAddr 0 (.s [f]), none⟩,
  ⟨some [f, f, f], .load none (.s [t, t]), none⟩,
  ⟨some [t, f, f], .move (.c (.int .i64 0)), none⟩]) : CCode)) false true
def c64_o3 : CCode := (fun (f t : Bool) => (.trim [[f], [t], [f, f], [f, f, f], [t, f, f]] (.ops [
  ⟨some [f, t, f], .bin .lss (.s [t, f, f]) (.s [f, f, f]), none⟩]) : CCode)) false true
def c64_o4 : CCode := (fun (f t : Bool) => (.trim [[f], [t], [f, f], [f, f, f], [t, f, f]] (.ops [
  ⟨some [t, t, f], .move (.s [t, f, f]), none⟩,
  ⟨some [t, f], .move (.s [t, t, f]), none⟩]) : CCode)) false true
def c64_o5 : CCode := (fun (f t : Bool) => (.trim [[f], [t], [f, f], [t, f], [f, f, f], [t, f, f]] (.ops [
  ⟨some [f, f, t], .fieldAddr 0 (.s [f]), none⟩,
  ⟨some [t, f, t], .load none (.s [f, f, t]), none⟩,
  ⟨some [f, t, t], .move (.c (.int .i64 0)), none⟩]) : CCode)) false true
def c64_o6 : CCode := (fun (f t : Bool) => (.trim [[f], [t], [f, f], [t, f], [f, f, f], [t, f, f], [t, f, t], [f, t, t]] (.ops [
  ⟨some [t, t, t], .bin .lss (.s [f, t, t]) (.s [t, f, t]), none⟩]) : CCode)) false true
def c64_o7 : CCode := (fun (f t : Bool) => (.trim [[f], [t], [f, f], [t, f], [f, f, f], [t, f, f], [t, f, t], [f, t, t]] (.ops [
  ⟨some [f, f, f, f], .move (.s [f, t, t]), none⟩,
  ⟨some [f, t], .move (.s [f, f, f, f]), none⟩]) : CCode)) false true
def c64_o8 : CCode := (fun (f t : Bool) => (.trim [[f], [t], [f, f], [t, f], [f, t], [f, f, f], [t, f, f], [t, f, t], [f, t, t]] (.draw 0 [
  ⟨some [t, f, f, f], .move (.s [t, f]), none⟩,
  ⟨some [f, t, f, f], .move (.s [f, t]), none⟩,
  ⟨some [t, t, f, f], .move (.s [t, f]), none⟩,
  ⟨some [f, f, t, f], .move (.s [f, t]), none⟩,
  ⟨some [t, f, t, f], .fieldAddr 1 (.s [f]), none⟩,
  ⟨some [f, t, t, f], .idxArr 8 8 (.s [t, f, t, f]) (.s [t, t, f, f]), none⟩,
  ⟨some [t, t, t, f], .idxArr 8 1 (.s [f, t, t, f]) (.s [f, f, t, f]), none⟩,
  ⟨some [f, f, f, t], .load none (.s [t, t, t, f]), none⟩,
  ⟨some [t, f, f, t], .bin .gtr (.s [f, f, f, t]) (.c (.int .i64 0)), none⟩,
  ⟨some [f, t, f, t], .idxArr 8 8 (.s [f, f]) (.s [t, f, f, f]), none⟩,
  ⟨some [t, t, f, t], .idxArr 8 1 (.s [f, t, f, t]) (.s [f, t, f, f]), none⟩,
  ⟨none, .store 1 (.s [t, t, f, t]) (.s [t, f, f, t]), none⟩]
  [] [[], [], [], [], [], [2, 4], [2, 3, 4, 5], [2, 3, 4, 5, 6], [2, 3, 4, 5, 6, 7], [0], (r 10), (r 11)]) : CCode)) false true
def c64_o9 : CCode := (fun (f t : Bool) => (.trim [[f], [t], [f, f], [t, f], [f, f, f], [t, f, f], [t, f, t], [f, t, t]] (.ops [
  ⟨some [f, f, t, t], .bin .add (.s [f, t, t]) (.c (.int .i64 1)), none⟩,
  ⟨some [f, t, t], .move (.s [f, f, t, t]), none⟩]) : CCode)) false true
def c64_b0 : CCode := (fun (f t : Bool) => ((.seq c64_o6
 (.seq (.cond (.s [t, t, t]) .skip (.exit 2))
 (.seq (.block 3 (.seq c64_o7
 c64_o8))
 c64_o9))) : CCode)) false true
def c64_l0 : CCode := (fun (f t : Bool) => (.loop [[f], [t], [f, f], [t, f], [f, f, f], [t, f, f], [t, f, t], [f, t, t]] c64_b0 : CCode)) false true
def c64_o10 : CCode := (fun (f t : Bool) => (.trim [[f], [t], [f, f], [f, f, f], [t, f, f]] (.ops [
  ⟨some [t, f, t, t], .bin .add (.s [t, f, f]) (.c (.int .i64 1)), none⟩,
  ⟨some [t, f, f], .move (.s [t, f, t, t]), none⟩]) : CCode)) false true
def c64_b1 : CCode := (fun (f t : Bool) => ((.seq c64_o3
 (.seq (.cond (.s [f, t, f]) .skip (.exit 0))
 (.seq (.block 1 (.seq c64_o4
 (.seq c64_o5
 (.block 2 c64_l0))))
 c64_o10))) : CCode)) false true
def c64_l1 : CCode := (fun (f t : Bool) => (.loop [[f], [t], [f, f], [f, f, f], [t, f, f]] c64_b1 : CCode)) false true
def c64_o11 : CCode := (fun (f t : Bool) => (.trim [[t], [f, f]] (.ops [
  ⟨some [f, t, t, t], .load (some 64) (.s [f, f]), none⟩,
  ⟨none, .store 64 (.s [t]) (.s [f, t, t, t]), none⟩]) : CCode)) false true
def c64 : CFunc := (fun (f t : Bool) => ({ params := [[]], results := [.cell [t] (some 64)], shared := f, body := (.seq c64_o0
 (.seq c64_o1
 (.seq (.seq c64_o2
 (.block 0 c64_l1))
 (.seq c64_o11
 .ret)))) } : CFunc)) false true
def c65_o0 : CCode := (fun (f t : Bool) => (.trim [[], [f]] (.ops [
  ⟨some [t], .box none (.s []), none⟩,
  ⟨some [f, f], .box none (.s [f]), none⟩,
  ⟨some [t, f], .alloc none (List.replicate 64 (.bool f)), none⟩]) : CCode)) false true
def c65_o1 : CCode := (fun (f t : Bool) => (.trim [[t], [f, f], [t, f]] (.ops [
  ⟨some [f, t], .alloc none (List.replicate 64 (.bool f)), none⟩]) : CCode)) false true
def c65_o2 : CCode := (fun (f t : Bool) => (.trim [[t], [f, f], [t, f], [f, t]] (.ops [
  ⟨some [f, t, f], .move (.c (.int .i64 0)), none⟩]) : CCode)) false true
def c65_o3 : CCode := (fun (f t : Bool) => (.trim [[t], [f, f], [t, f], [f, t], [f, t, f]] (.ops [
  ⟨some [t, t, f], .bin .lss (.s [f, t, f]) (.c (.int .i64 8)), none⟩]) : CCode)) false true
def c65_o4 : CCode := (fun (f t : Bool) => (.trim [[t], [f, f], [t, f], [f, t], [f, t, f]] (.ops [
  ⟨some [f, f, t], .move (.s [f, t, f]), none⟩,
  ⟨some [t, t], .move (.s [f, f, t]), none⟩]) : CCode)) false true
def c65_o5 : CCode := (fun (f t : Bool) => (.trim [[t], [f, f], [t, f], [f, t], [t, t], [f, t, f]] (.ops [
  ⟨some [t, f, t], .move (.c (.int .i64 0)), none⟩]) : CCode)) false true
def c65_o6 : CCode := (fun (f t : Bool) => (.trim [[t], [f, f], [t, f], [f, t], [t, t], [f, t, f], [t, f, t]] (.ops [
  ⟨some [f, t, t], .bin .lss (.s [t, f, t]) (.c (.int .i64 8)), none⟩]) : CCode)) false true
def c65_o7 : CCode := (fun (f t : Bool) => (.trim [[t], [f, f], [t, f], [f, t], [t, t], [f, t, f], [t, f, t]] (.ops [
  ⟨some [t, t, t], .move (.s [t, f, t]), none⟩,
  ⟨some [f, f, f], .move (.s [t, t, t]), none⟩]) : CCode)) false true
def c65_o8 : CCode := (fun (f t : Bool) => (.trim [[t], [f, f], [t, f], [f, t], [t, t], [f, f, f], [f, t, f], [t, f, t]] (.ops [
  ⟨some [f, f, f, f], .move (.c (.int .i64 0)), none⟩]) : CCode)) false true
def c65_o9 : CCode := (fun (f t : Bool) => (.trim [[t], [f, f], [t, f], [f, t], [t, t], [f, f, f], [f, t, f], [t, f, t], [f, f, f, f]] (.ops [
  ⟨some [t, f, f, f], .bin .lss (.s [f, f, f, f]) (.c (.int .i64 8)), none⟩]) : CCode)) false true
def c65_o10 : CCode := (fun (f t : Bool) => (.trim [[t], [f, f], [t, f], [f, t], [t, t], [f, f, f], [f, t, f], [t, f, t], [f, f, f, f]] (.ops [
  ⟨some [f, t, f, f], .move (.s [f, f, f, f]), none⟩,
  ⟨some [t, f, f], .move (.s [f, t, f, f]), none⟩]) : CCode)) false true
def c65_o11 : CCode := (fun (f t : Bool) => (.trim [[t], [f, f], [t, f], [f, t], [t, t], [f, f, f], [t, f, f], [f, t, f], [t, f, t], [f, f, f, f]] (.draw 0 [
  ⟨some [t, t, f, f], .move (.s [t, t]), none⟩,
  ⟨some [f, f, t, f], .move (.s [f, f, f]), none⟩,
  ⟨some [t, f, t, f], .move (.s [t, t]), none⟩,
  ⟨some [f, t, t, f], .move (.s [f, f, f]), none⟩,
  ⟨some [t, t, t, f], .idxArr 8 8 (.s [f, t]) (.s [t, f, t, f]), none⟩,
  ⟨some [f, f, f, t], .idxArr 8 1 (.s [t, t, t, f]) (.s [f, t, t, f]), none⟩,
  ⟨some [t, f, f, t], .load none (.s [f, f, f, t]), none⟩,
  ⟨some [f, t, f, t], .move (.s [t, f, f, t]), none⟩,
  ⟨some [t, t, f, t], .move (.s [t, t]), some ([f, t, f, t], f)⟩,
  ⟨some [f, f, t, t], .move (.s [t, f, f]), some ([f, t, f, t], f)⟩,
  ⟨some [t, f, t, t], .idxArr 8 8 (.s [t]) (.s [t, t, f, t]), some ([f, t, f, t], f)⟩,
  ⟨some [f, t, t, t], .idxArr 8 1 (.s [t, f, t, t]) (.s [f, f, t, t]), some ([f, t, f, t], f)⟩,
  ⟨some [t, t, t, t], .load none (.s [f, t, t, t]), some ([f, t, f, t], f)⟩,
  ⟨some [f, f, f, f, f], .move (.s [t, t, t, t]), some ([f, t, f, t], f)⟩,
  ⟨some [t, f, f, f, f], .move (.s [t, f, f]), some ([f, f, f, f, f], t)⟩,
  ⟨some [f, t, f, f, f], .move (.s [f, f, f]), some ([f, f, f, f, f], t)⟩,
  ⟨some [t, t, f, f, f], .idxArr 8 8 (.s [f, f]) (.s [t, f, f, f, f]), some ([f, f, f, f, f], t)⟩,
  ⟨some [f, f, t, f, f], .idxArr 8 1 (.s [t, t, f, f, f]) (.s [f, t, f, f, f]), some ([f, f, f, f, f], t)⟩,
  ⟨some [t, f, t, f, f], .load none (.s [f, f, t, f, f]), some ([f, f, f, f, f], t)⟩,
  ⟨some [f, t, t, f, f], .pick (.s [f, f, f, f, f]) (.s [t, f, t, f, f]) (.c (.bool f)), some ([f, t, f, t], f)⟩,
  ⟨some [t, t, t, f, f], .pick (.s [f, t, f, t]) (.c (.bool t)) (.s [f, t, t, f, f]), none⟩,
  ⟨some [f, f, f, t, f], .idxArr 8 8 (.s [f, t]) (.s [t, t, f, f]), none⟩,
  ⟨some [t, f, f, t, f], .idxArr 8 1 (.s [f, f, f, t, f]) (.s [f, f, t, f]), none⟩,
  ⟨none, .store 1 (.s [t, f, f, t, f]) (.s [t, t, t, f, f]), none⟩]
  [] [[], [], [], [], [2], [2, 3, 4], [2, 3, 4, 5], [2, 3, 4, 5, 6], [2, 3, 4, 5, 6, 7], [2, 3, 4, 5, 6, 7], [2, 3, 4, 5, 6, 7, 8], [2, 3, 4, 5, 6, 7, 8, 9, 10], [2, 3, 4, 5, 6, 7, 8, 9, 10, 11], [2, 3, 4, 5, 6, 7, 8, 9, 10, 11, 12], [2, 3, 4, 5, 6, 7, 8, 9, 10, 11, 12, 13], [2, 3, 4, 5, 6, 7, 8, 9, 10, 11, 12, 13], [2, 3, 4, 5, 6, 7, 8, 9, 10, 11, 12, 13, 14], [2, 3, 4, 5, 6, 7, 8, 9, 10, 11, 12, 13, 14, 15, 16], [2, 3, 4, 5, 6, 7, 8, 9, 10, 11, 12, 13, 14, 15, 16, 17], [2, 3, 4, 5, 6, 7, 8, 9, 10, 11, 12, 13, 14, 15, 16, 17, 18], [2, 3, 4, 5, 6, 7, 8, 9, 10, 11, 12, 13, 14, 15, 16, 17, 18, 19], [0], (r 22), (r 23)]) : CCode)) false true
def c65_o12 : CCode := (fun (f t : Bool) => (.trim [[t], [f, f], [t, f], [f, t], [t, t], [f, f, f], [f, t, f], [t, f, t], [f, f, f, f]] (.ops [
  ⟨some [f, t, f, t, f], .bin .add (.s [f, f, f, f]) (.c (.int .i64 1)), none⟩,
  ⟨some [f, f, f, f], .move (.s [f, t, f, t, f]), none⟩]) : CCode)) false true
def c65_b0 : CCode := (fun (f t : Bool) => ((.seq c65_o9
 (.seq (.cond (.s [t, f, f, f]) .skip (.exit 4))
 (.seq (.block 5 (.seq c65_o10
 c65_o11))
 c65_o12))) : CCode)) false true
def c65_l0 : CCode := (fun (f t : Bool) => (.loop [[t], [f, f], [t, f], [f, t], [t, t], [f, f, f], [f, t, f], [t, f, t], [f, f, f, f]] c65_b0 : CCode)) false true
def c65_o13 : CCode := (fun (f t : Bool) => (.trim [[t], [f, f], [t, f], [f, t], [t, t], [f, t, f], [t, f, t]] (.ops [
  ⟨some [t, t, f, t, f], .bin .add (.s [t, f, t]) (.c (.int .i64 1)), none⟩,
  ⟨some [t, f, t], .move (.s [t, t, f, t, f]), none⟩]) : CCode)) false true
def c65_b1 : CCode := (fun (f t : Bool) => ((.seq c65_o6
 (.seq (.cond (.s [f, t, t]) .skip (.exit 2))
 (.seq (.block 3 (.seq c65_o7
 (.seq c65_o8
 (.block 4 c65_l0))))
 c65_o13))) : CCode)) false true
def c65_l1 : CCode := (fun (f t : Bool) => (.loop [[t], [f, f], [t, f], [f, t], [t, t], [f, t, f], [t, f, t]] c65_b1 : CCode)) false true
def c65_o14 : CCode := (fun (f t : Bool) => (.trim [[t], [f, f], [t, f], [f, t], [f, t, f]] (.ops [
  ⟨some [f, f, t, t, f], .bin .add (.s [f, t, f]) (.c (.int .i64 1)), none⟩,
  ⟨some [f, t, f], .move (.s [f, f, t, t, f]), none⟩]) : CCode)) false true
def c65_b2 : CCode := (fun (f t : Bool) => ((.seq c65_o3
 (.seq (.cond (.s [t, t, f]) .skip (.exit 0))
 (.seq (.block 1 (.seq c65_o4
 (.seq c65_o5
 (.block 2 c65_l1))))
 c65_o14))) : CCode)) false true
def c65_l2 : CCode := (fun (f t : Bool) => (.loop [[t], [f, f], [t, f], [f, t], [f, t, f]] c65_b2 : CCode)) false true
def c65_o15 : CCode := (fun (f t : Bool) => (.trim [[t, f], [f, t]] (.ops [
  ⟨some [t, f, t, t, f], .load (some 64) (.s [f, t]), none⟩,
  ⟨none, .store 64 (.s [t, f]) (.s [t, f, t, t, f]), none⟩]) : CCode)) false true
def c65 : CFunc := (fun (f t : Bool) => ({ params := [[], [f]], results := [.cell [t, f] (some 64)], shared := f, body := (.seq c65_o0
 (.seq c65_o1
 (.seq (.seq c65_o2
 (.block 0 c65_l2))
 (.seq c65_o15
 .ret)))) } : CFunc)) false true
def c67_o0 : CCode := (fun (f t : Bool) => (.trim [[]] (.ops [
  ⟨some [f], .box none (.s []), none⟩,
  ⟨some [t], .alloc none (List.replicate 64 (.bool f)), none⟩]) : CCode)) false true
def c67_o1 : CCode := (fun (f t : Bool) => (.trim [[f], [t]] (.ops [
  ⟨some [t, f, f], .load (some 65) (.s [f]), none⟩,
  ⟨some [f, t, f], .call f (.c (.func 64 [])) [(.s [t, f, f])], none⟩,
  ⟨some [f, f], .alloc none (List.replicate 64 (.bool f)), none⟩,
  ⟨none, .store 64 (.s [f, f]) (.s [f, t, f]), none⟩]) : CCode)) false true
def c67_o2 : CCode := (fun (f t : Bool) => (.trim [[f], [t], [f, f]] (.ops [
  ⟨some [t, t, f], .fieldAddr 0 (.s [f]), none⟩,
  ⟨some [f, f, t], .load none (.s [t, t, f]), none⟩,
  ⟨some [t, f, t], .move (.c (.int .i64 0)), none⟩]) : CCode)) false true
def c67_o3 : CCode := (fun (f t : Bool) => (.trim [[f], [t], [f, f], [f, f, t], [t, f, t]] (.ops [
  ⟨some [f, t, t], .bin .lss (.s [t, f, t]) (.s [f, f, t]), none⟩]) : CCode)) false true
def c67_o4 : CCode := (fun (f t : Bool) => (.trim [[f], [t], [f, f], [f, f, t], [t, f, t]] (.ops [
  ⟨some [t, t, t], .move (.s [t, f, t]), none⟩,
  ⟨some [t, f], .move (.s [t, t, t]), none⟩]) : CCode)) false true
def c67_o5 : CCode := (fun (f t : Bool) => (.trim [[f], [t], [f, f], [t, f], [f, f, t], [t, f, t]] (.ops [
  ⟨some [f, f, f, f], .move (.s [t, f]), none⟩,
  ⟨some [t, f, f, f], .move (.s [t, f]), none⟩,
  ⟨some [f, t, f, f], .idxArr 8 8 (.s [f, f]) (.s [f, f, f, f]), none⟩,
  ⟨some [t, t, f, f], .idxArr 8 1 (.s [f, t, f, f]) (.s [t, f, f, f]), none⟩,
  ⟨none, .store 1 (.s [t, t, f, f]) (.c (.bool t)), none⟩]) : CCode)) false true
def c67_o6 : CCode := (fun (f t : Bool) => (.trim [[f], [t], [f, f], [f, f, t], [t, f, t]] (.ops [
  ⟨some [f, f, t, f], .bin .add (.s [t, f, t]) (.c (.int .i64 1)), none⟩,
  ⟨some [t, f, t], .move (.s [f, f, t, f]), none⟩]) : CCode)) false true
def c67_b0 : CCode := (fun (f t : Bool) => ((.seq c67_o3
 (.seq (.cond (.s [f, t, t]) .skip (.exit 0))
 (.seq (.block 1 (.seq c67_o4
 c67_o5))
 c67_o6))) : CCode)) false true
def c67_l0 : CCode := (fun (f t : Bool) => (.loop [[f], [t], [f, f], [f, f, t], [t, f, t]] c67_b0 : CCode)) false true
def c67_o7 : CCode := (fun (f t : Bool) => (.trim [[f], [t], [f, f]] (.ops [
  ⟨some [t, f, t, f], .fieldAddr 0 (.s [f]), none⟩,
  ⟨some [f, t, t, f], .load none (.s [t, f, t, f]), none⟩,
  ⟨some [t, t, t, f], .move (.c (.int .i64 0)), none⟩]) : CCode)) false true
def c67_o8 : CCode := (fun (f t : Bool) => (.trim [[f], [t], [f, f], [f, t, t, f], [t, t, t, f]] (.ops [
  ⟨some [f, f, f, t], .bin .lss (.s [t, t, t, f]) (.s [f, t, t, f]), none⟩]) : CCode)) false true
def c67_o9 : CCode := (fun (f t : Bool) => (.trim [[f], [t], [f, f], [f, t, t, f], [t, t, t, f]] (.ops [
  ⟨some [t, f, f, t], .move (.s [t, t, t, f]), none⟩,
  ⟨some [f, t], .move (.s [t, f, f, t]), none⟩]) : CCode)) false true
def c67_o10 : CCode := (fun (f t : Bool) => (.trim [[f], [t], [f, f], [f, t], [f, t, t, f], [t, t, t, f]] (.ops [
  ⟨some [f, t, f, t], .fieldAddr 0 (.s [f]), none⟩,
  ⟨some [t, t, f, t], .load none (.s [f, t, f, t]), none⟩,
  ⟨some [f, f, t, t], .move (.c (.int .i64 0)), none⟩]) : CCode)) false true
def c67_o11 : CCode := (fun (f t : Bool) => (.trim [[f], [t], [f, f], [f, t], [f, t, t, f], [t, t, t, f], [t, t, f, t], [f, f, t, t]] (.ops [
  ⟨some [t, f, t, t], .bin .lss (.s [f, f, t, t]) (.s [t, t, f, t]), none⟩]) : CCode)) false true
def c67_o12 : CCode := (fun (f t : Bool) => (.trim [[f], [t], [f, f], [f, t], [f, t, t, f], [t, t, t, f], [t, t, f, t], [f, f, t, t]] (.ops [
  ⟨some [f, t, t, t], .move (.s [f, f, t, t]), none⟩,
  ⟨some [t, t], .move (.s [f, t, t, t]), none⟩]) : CCode)) false true
def c67_o13 : CCode := (fun (f t : Bool) => (.trim [[f], [t], [f, f], [f, t], [t, t], [f, t, t, f], [t, t, t, f], [t, t, f, t], [f, f, t, t]] (.ops [
  ⟨some [t, t, t, t], .fieldAddr 0 (.s [f]), none⟩,
  ⟨some [f, f, f, f, f], .load none (.s [t, t, t, t]), none⟩,
  ⟨some [t, f, f, f, f], .move (.c (.int .i64 0)), none⟩]) : CCode)) false true
def c67_o14 : CCode := (fun (f t : Bool) => (.trim [[f], [t], [f, f], [f, t], [t, t], [f, t, t, f], [t, t, t, f], [t, t, f, t], [f, f, t, t], [f, f, f, f, f], [t, f, f, f, f]] (.ops [
  ⟨some [f, t, f, f, f], .bin .lss (.s [t, f, f, f, f]) (.s [f, f, f, f, f]), none⟩]) : CCode)) false true
def c67_o15 : CCode := (fun (f t : Bool) => (.trim [[f], [t], [f, f], [f, t], [t, t], [f, t, t, f], [t, t, t, f], [t, t, f, t], [f, f, t, t], [f, f, f, f, f], [t, f, f, f, f]] (.ops [
  ⟨some [t, t, f, f, f], .move (.s [t, f, f, f, f]), none⟩,
  ⟨some [f, f, f], .move (.s [t, t, f, f, f]), none⟩]) : CCode)) false true
def c67_o16 : CCode := (fun (f t : Bool) => (.trim [[f], [t], [f, f], [f, t], [t, t], [f, f, f], [f, t, t, f], [t, t, t, f], [t, t, f, t], [f, f, t, t], [f, f, f, f, f], [t, f, f, f, f]] (.draw 0 [
  ⟨some [f, f, t, f, f], .move (.s [t, t]), none⟩,
  ⟨some [t, f, t, f, f], .move (.s [f, f, f]), none⟩,
  ⟨some [f, t, t, f, f], .move (.s [t, t]), none⟩,
  ⟨some [t, t, t, f, f], .move (.s [f, f, f]), none⟩,
  ⟨some [f, f, f, t, f], .idxArr 8 8 (.s [f, f]) (.s [f, t, t, f, f]), none⟩,
  ⟨some [t, f, f, t, f], .idxArr 8 1 (.s [f, f, f, t, f]) (.s [t, t, t, f, f]), none⟩,
  ⟨some [f, t, f, t, f], .load none (.s [t, f, f, t, f]), none⟩,
  ⟨some [t, t, f, t, f], .move (.s [f, t, f, t, f]), none⟩,
  ⟨some [f, f, t, t, f], .move (.s [t, t]), some ([t, t, f, t, f], f)⟩,
  ⟨some [t, f, t, t, f], .move (.s [f, t]), some ([t, t, f, t, f], f)⟩,
  ⟨some [f, t, t, t, f], .idxArr 8 8 (.s [f, f]) (.s [f, f, t, t, f]), some ([t, t, f, t, f], f)⟩,
  ⟨some [t, t, t, t, f], .idxArr 8 1 (.s [f, t, t, t, f]) (.s [t, f, t, t, f]), some ([t, t, f, t, f], f)⟩,
  ⟨some [f, f, f, f, t], .load none (.s [t, t, t, t, f]), some ([t, t, f, t, f], f)⟩,
  ⟨some [t, f, f, f, t], .move (.s [f, f, f, f, t]), some ([t, t, f, t, f], f)⟩,
  ⟨some [f, t, f, f, t], .move (.s [f, t]), some ([t, f, f, f, t], t)⟩,
  ⟨some [t, t, f, f, t], .move (.s [f, f, f]), some ([t, f, f, f, t], t)⟩,
  ⟨some [f, f, t, f, t], .idxArr 8 8 (.s [f, f]) (.s [f, t, f, f, t]), some ([t, f, f, f, t], t)⟩,
  ⟨some [t, f, t, f, t], .idxArr 8 1 (.s [f, f, t, f, t]) (.s [t, t, f, f, t]), some ([t, f, f, f, t], t)⟩,
  ⟨some [f, t, t, f, t], .load none (.s [t, f, t, f, t]), some ([t, f, f, f, t], t)⟩,
  ⟨some [t, t, t, f, t], .pick (.s [t, f, f, f, t]) (.s [f, t, t, f, t]) (.c (.bool f)), some ([t, t, f, t, f], f)⟩,
  ⟨some [f, f, f, t, t], .pick (.s [t, t, f, t, f]) (.c (.bool t)) (.s [t, t, t, f, t]), none⟩,
  ⟨some [t, f, f, t, t], .idxArr 8 8 (.s [f, f]) (.s [f, f, t, f, f]), none⟩,
  ⟨some [f, t, f, t, t], .idxArr 8 1 (.s [t, f, f, t, t]) (.s [t, f, t, f, f]), none⟩,
  ⟨none, .store 1 (.s [f, t, f, t, t]) (.s [f, f, f, t, t]), none⟩]
  [] [[], [], [], [], [2], [2, 3, 4], [2, 3, 4, 5], [2, 3, 4, 5, 6], [2, 3, 4, 5, 6, 7], [2, 3, 4, 5, 6, 7], [2, 3, 4, 5, 6, 7, 8], [2, 3, 4, 5, 6, 7, 8, 9, 10], [2, 3, 4, 5, 6, 7, 8, 9, 10, 11], [2, 3, 4, 5, 6, 7, 8, 9, 10, 11, 12], [2, 3, 4, 5, 6, 7, 8, 9, 10, 11, 12, 13], [2, 3, 4, 5, 6, 7, 8, 9, 10, 11, 12, 13], [2, 3, 4, 5, 6, 7, 8, 9, 10, 11, 12, 13, 14], [2, 3, 4, 5, 6, 7, 8, 9, 10, 11, 12, 13, 14, 15, 16], [2, 3, 4, 5, 6, 7, 8, 9, 10, 11, 12, 13, 14, 15, 16, 17], [2, 3, 4, 5, 6, 7, 8, 9, 10, 11, 12, 13, 14, 15, 16, 17, 18], [2, 3, 4, 5, 6, 7, 8, 9, 10, 11, 12, 13, 14, 15, 16, 17, 18, 19], [0], (r 22), (r 23)]) : CCode)) false true
def c67_o17 : CCode := (fun (f t : Bool) => (.trim [[f], [t], [f, f], [f, t], [t, t], [f, t, t, f], [t, t, t, f], [t, t, f, t], [f, f, t, t], [f, f, f, f, f], [t, f, f, f, f]] (.ops [
  ⟨some [t, t, f, t, t], .bin .add (.s [t, f, f, f, f]) (.c (.int .i64 1)), none⟩,
  ⟨some [t, f, f, f, f], .move (.s [t, t, f, t, t]), none⟩]) : CCode)) false true
def c67_b1 : CCode := (fun (f t : Bool) => ((.seq c67_o14
 (.seq (.cond (.s [f, t, f, f, f]) .skip (.exit 6))
 (.seq (.block 7 (.seq c67_o15
 c67_o16))
 c67_o17))) : CCode)) false true
def c67_l1 : CCode := (fun (f t : Bool) => (.loop [[f], [t], [f, f], [f, t], [t, t], [f, t, t, f], [t, t, t, f], [t, t, f, t], [f, f, t, t], [f, f, f, f, f], [t, f, f, f, f]] c67_b1 : CCode)) false true
def c67_o18 : CCode := (fun (f t : Bool) => (.trim [[f], [t], [f, f], [f, t], [f, t, t, f], [t, t, t, f], [t, t, f, t], [f, f, t, t]] (.ops [
  ⟨some [f, f, t, t, t], .bin .add (.s [f, f, t, t]) (.c (.int .i64 1)), none⟩,
  ⟨some [f, f, t, t], .move (.s [f, f, t, t, t]), none⟩]) : CCode)) false true
def c67_b2 : CCode := (fun (f t : Bool) => ((.seq c67_o11
 (.seq (.cond (.s [t, f, t, t]) .skip (.exit 4))
 (.seq (.block 5 (.seq c67_o12
 (.seq c67_o13
 (.block 6 c67_l1))))
 c67_o18))) : CCode)) false true
def c67_l2 : CCode := (fun (f t : Bool) => (.loop [[f], [t], [f, f], [f, t], [f, t, t, f], [t, t, t, f], [t, t, f, t], [f, f, t, t]] c67_b2 : CCode)) false true
def c67_o19 : CCode := (fun (f t : Bool) => (.trim [[f], [t], [f, f], [f, t, t, f], [t, t, t, f]] (.ops [
  ⟨some [t, f, t, t, t], .bin .add (.s [t, t, t, f]) (.c (.int .i64 1)), none⟩,
  ⟨some [t, t, t, f], .move (.s [t, f, t, t, t]), none⟩]) : CCode)) false true
def c67_b3 : CCode := (fun (f t : Bool) => ((.seq c67_o8
 (.seq (.cond (.s [f, f, f, t]) .skip (.exit 2))
 (.seq (.block 3 (.seq c67_o9
 (.seq c67_o10
 (.block 4 c67_l2))))
 c67_o19))) : CCode)) false true
def c67_l3 : CCode := (fun (f t : Bool) => (.loop [[f], [t], [f, f], [f, t, t, f], [t, t, t, f]] c67_b3 : CCode)) false true
def c67_o20 : CCode := (fun (f t : Bool) => (.trim [[t], [f, f]] (.ops [
  ⟨some [f, t, t, t, t], .load (some 64) (.s [f, f]), none⟩,
  ⟨none, .store 64 (.s [t]) (.s [f, t, t, t, t]), none⟩]) : CCode)) false true
def c67 : CFunc := (fun (f t : Bool) => ({ params := [[]], results := [.cell [t] (some 64)], shared := f, body := (.seq c67_o0
 (.seq c67_o1
 (.seq (.seq c67_o2
 (.block 0 c67_l0))
 (.seq (.seq c67_o7
 (.block 2 c67_l3))
 (.seq c67_o20
 .ret))))) } : CFunc)) false true
def c68_o0 : CCode := (fun (f t : Bool) => (.trim [[], [f], [t], [f, f], [t, f], [f, t], [t, t]] (.ops [
  ⟨some [t, f, f], .move (.c (.int .i64 0)), none⟩]) : CCode)) false true
def c68_o1 : CCode := (fun (f t : Bool) => (.trim [[], [f], [t], [f, f], [t, f], [f, t], [t, t]] (.ops [
  ⟨some [t, t, t], .load none (.s [f]), none⟩,
  ⟨some [f, f, f, f], .move (.s []), none⟩,
  ⟨some [t, f, f, f], .lookup (.i .i64) (.int .i64 0) t (.s [t, t, t]) (.s [f, f, f, f]), none⟩,
  ⟨some [f, t, t], .move (.s [t, f, f, f]), none⟩,
  ⟨some [f, t, f, f], .extract 0 (.s [f, t, t]), none⟩,
  ⟨some [t, t, f, f], .extract 1 (.s [f, t, t]), none⟩,
  ⟨some [f, t, f], .move (.s [f, t, f, f]), none⟩,
  ⟨some [t, t, f], .move (.s [t, t, f, f]), none⟩]) : CCode)) false true
def c68_o2 : CCode := (fun (f t : Bool) => (.trim [[], [f], [t], [f, f], [t, f], [f, t], [t, t], [t, t, f]] (.ops [
  ⟨some [f, f, t, f], .move (.s [t, t, f]), none⟩,
  ⟨some [t, f, t, f], .un .not (.s [f, f, t, f]), none⟩]) : CCode)) false true
def c68_o3 : CCode := (fun (f t : Bool) => (.trim [[], [f], [t], [f, f], [t, f], [f, t], [t, t]] (.ops [
  ⟨some [f, f, t], .move (.c (.int .i64 0)), none⟩]) : CCode)) false true
def c68_o4 : CCode := (fun (f t : Bool) => (.trim [[], [f], [t], [f, f], [t, f], [f, t], [t, t], [f, f, t]] (.ops [
  ⟨some [f, t, t, f], .fieldAddr 0 (.s [t]), none⟩,
  ⟨some [t, t, t, f], .load none (.s [f, t, t, f]), none⟩,
  ⟨some [f, f, f, t], .move (.c (.int .i64 0)), none⟩]) : CCode)) false true
def c68_o5 : CCode := (fun (f t : Bool) => (.trim [[], [f], [f, f], [t, f], [f, t], [t, t], [f, f, t], [t, t, t, f], [f, f, f, t]] (.ops [
  ⟨some [t, f, f, t], .bin .lss (.s [f, f, f, t]) (.s [t, t, t, f]), none⟩]) : CCode)) false true
def c68_o6 : CCode := (fun (f t : Bool) => (.trim [[], [f], [f, f], [t, f], [f, t], [t, t], [f, f, t], [t, t, t, f], [f, f, f, t]] (.ops [
  ⟨some [f, t, f, t], .move (.s [f, f, f, t]), none⟩,
  ⟨some [t, f, t], .move (.s [f, t, f, t]), none⟩]) : CCode)) false true
def c68_o7 : CCode := (fun (f t : Bool) => (.trim [[], [f], [f, f], [t, f], [f, t], [t, t], [f, f, t], [t, f, t], [t, t, t, f], [f, f, f, t]] (.ops [
  ⟨some [t, t, f, t], .move (.s [t, f, t]), none⟩,
  ⟨some [f, f, t, t], .load none (.s [f, f]), none⟩,
  ⟨some [t, f, t, t], .move (.s [t, f, t]), none⟩,
  ⟨some [f, t, t, t], .idxSl 1 (.s [f, f, t, t]) (.s [t, f, t, t]), none⟩,
  ⟨some [t, t, t, t], .load none (.s [f, t, t, t]), none⟩,
  ⟨some [f, f, f, f, f], .bin .eql (.s [t, t, f, t]) (.s [t, t, t, t]), none⟩,
  ⟨some [t, f, f, f, f], .move (.s [f, f, f, f, f]), none⟩,
  ⟨some [f, t, f, f, f], .move (.s [t, f, t]), some ([t, f, f, f, f], t)⟩,
  ⟨some [t, t, f, f, f], .move (.s []), some ([t, f, f, f, f], t)⟩,
  ⟨some [f, f, t, f, f], .bin .neq (.s [f, t, f, f, f]) (.s [t, t, f, f, f]), some ([t, f, f, f, f], t)⟩,
  ⟨some [t, f, t, f, f], .pick (.s [t, f, f, f, f]) (.s [f, f, t, f, f]) (.c (.bool f)), none⟩,
  ⟨some [f, t, t, f, f], .move (.s [t, f, t, f, f]), none⟩,
  ⟨some [t, t, t, f, f], .move (.s []), some ([f, t, t, f, f], t)⟩,
  ⟨some [f, f, f, t, f], .move (.s [t, f, t]), some ([f, t, t, f, f], t)⟩,
  ⟨some [t, f, f, t, f], .idxArr 8 8 (.s [t, f]) (.s [t, t, t, f, f]), some ([f, t, t, f, f], t)⟩,
  ⟨some [f, t, f, t, f], .idxArr 8 1 (.s [t, f, f, t, f]) (.s [f, f, f, t, f]), some ([f, t, t, f, f], t)⟩,
  ⟨some [t, t, f, t, f], .load none (.s [f, t, f, t, f]), some ([f, t, t, f, f], t)⟩,
  ⟨some [f, f, t, t, f], .pick (.s [f, t, t, f, f]) (.s [t, t, f, t, f]) (.c (.bool f)), none⟩]) : CCode)) false true
def c68_o8 : CCode := (fun (f t : Bool) => (.trim [[], [f], [f, f], [t, f], [f, t], [t, t], [f, f, t], [t, f, t], [t, t, t, f], [f, f, f, t]] (.ops [
  ⟨some [t, f, t, t, f], .move (.s [f, f, t]), none⟩,
  ⟨some [f, t, t, t, f], .load none (.s [f, t]), none⟩,
  ⟨some [t, t, t, t, f], .move (.s [t, f, t]), none⟩,
  ⟨some [f, f, f, f, t], .call f (.s [f, t, t, t, f]) [(.s [t, t, t, t, f])], none⟩,
  ⟨some [t, f, f, f, t], .minmax t (.s [t, f, t, t, f]) (.s [f, f, f, f, t]), none⟩,
  ⟨some [f, f, t], .move (.s [t, f, f, f, t]), none⟩]) : CCode)) false true
def c68_o9 : CCode := (fun (f t : Bool) => (.trim [[], [f], [f, f], [t, f], [f, t], [t, t], [f, f, t], [t, t, t, f], [f, f, f, t]] (.ops [
  ⟨some [f, t, f, f, t], .bin .add (.s [f, f, f, t]) (.c (.int .i64 1)), none⟩,
  ⟨some [f, f, f, t], .move (.s [f, t, f, f, t]), none⟩]) : CCode)) false true
def c68_b0 : CCode := (fun (f t : Bool) => ((.seq c68_o5
 (.seq (.cond (.s [t, f, f, t]) .skip (.exit 0))
 (.seq (.block 1 (.seq c68_o6
 (.seq c68_o7
 (.cond (.s [f, f, t, t, f]) c68_o8 .skip))))
 c68_o9))) : CCode)) false true
def c68_l0 : CCode := (fun (f t : Bool) => (.loop [[], [f], [f, f], [t, f], [f, t], [t, t], [f, f, t], [t, t, t, f], [f, f, f, t]] c68_b0 : CCode)) false true
def c68_o10 : CCode := (fun (f t : Bool) => (.trim [[], [f], [t, t], [f, f, t]] (.ops [
  ⟨some [t, t, f, f, t], .load none (.s [t, t]), none⟩,
  ⟨some [f, f, t, f, t], .move (.s []), none⟩,
  ⟨some [t, f, t, f, t], .lookup (.i .i64) (.bool f) f (.s [t, t, f, f, t]) (.s [f, f, t, f, t]), none⟩]) : CCode)) false true
def c68_o11 : CCode := (fun (f t : Bool) => (.trim [[], [f], [f, f, t]] (.ops [
  ⟨some [f, t, t, f, t], .move (.s [f, f, t]), none⟩,
  ⟨some [t, t, t, f, t], .bin .add (.s [f, t, t, f, t]) (.c (.int .i64 1)), none⟩,
  ⟨some [f, f, t], .move (.s [t, t, t, f, t]), none⟩]) : CCode)) false true
def c68_o12 : CCode := (fun (f t : Bool) => (.trim [[], [f], [f, f, t]] (.ops [
  ⟨some [f, f, f, t, t], .load none (.s [f]), none⟩,
  ⟨some [t, f, f, t, t], .move (.s []), none⟩,
  ⟨some [f, t, f, t, t], .move (.s [f, f, t]), none⟩,
  ⟨none, .mapUpdate (.i .i64) (.s [f, f, f, t, t]) (.s [t, f, f, t, t]) (.s [f, t, f, t, t]), none⟩]) : CCode)) false true
def c68_o13 : CCode := (fun (f t : Bool) => (.trim [[], [f]] (.ops [
  ⟨some [t, t, f, t, t], .load none (.s [f]), none⟩,
  ⟨some [f, f, t, t, t], .move (.s []), none⟩,
  ⟨some [t, f, t, t, t], .lookup (.i .i64) (.int .i64 0) f (.s [t, t, f, t, t]) (.s [f, f, t, t, t]), none⟩,
  ⟨some [t, f, f], .move (.s [t, f, t, t, t]), none⟩]) : CCode)) false true
def c68 : CFunc := (fun (f t : Bool) => ({ params := [[], [f], [t], [f, f], [t, f], [f, t], [t, t]], results := [.slot [t, f, f]], shared := t, body := (.seq c68_o0
 (.seq (.seq c68_o1
 (.seq c68_o2
 (.cond (.s [t, f, t, f]) (.seq c68_o3
 (.seq (.seq c68_o4
 (.block 0 c68_l0))
 (.seq (.seq c68_o10
 (.cond (.s [t, f, t, f, t]) c68_o11 .skip))
 c68_o12))) .skip)))
 (.seq c68_o13
 .ret))) } : CFunc)) false true
def c69_o0 : CCode := (fun (f t : Bool) => (.trim [[]] (.ops [
  ⟨some [t], .move (.c (.nils)), none⟩]) : CCode)) false true
def c69_o1 : CCode := (fun (f t : Bool) => (.trim [[]] (.ops [
  ⟨some [t, t, f], .move (.s []), none⟩,
  ⟨some [f, f, t], .len 1 (.s [t, t, f]), none⟩,
  ⟨some [f, f], .move (.s [f, f, t]), none⟩]) : CCode)) false true
def c69_o2 : CCode := (fun (f t : Bool) => (.trim [[], [f, f]] (.ops [
  ⟨some [t, f], .move (.c (.nils)), none⟩]) : CCode)) false true
def c69_o3 : CCode := (fun (f t : Bool) => (.trim [[], [f, f], [t, f]] (.ops [
  ⟨some [f, t], .move (.c (.int .i64 0)), none⟩]) : CCode)) false true
def c69_o4 : CCode := (fun (f t : Bool) => (.trim [[], [f, f], [t, f], [f, t]] (.ops [
  ⟨some [t, f, t], .move (.s [f, t]), none⟩,
  ⟨some [f, t, t], .move (.s [f, f]), none⟩,
  ⟨some [t, t, t], .bin .lss (.s [t, f, t]) (.s [f, t, t]), none⟩]) : CCode)) false true
def c69_o5 : CCode := (fun (f t : Bool) => (.trim [[], [f, f], [t, f], [f, t]] (.ops [
  ⟨some [f, t, f, f], .move (.s [f, f]), none⟩,
  ⟨some [t, t, f, f], .makeSlice none 1 1 [.bool f] (.s [f, t, f, f]), none⟩,
  ⟨some [t, t], .move (.s [t, t, f, f]), none⟩]) : CCode)) false true
def c69_o6 : CCode := (fun (f t : Bool) => (.trim [[], [f, f], [t, f], [f, t], [t, t]] (.ops [
  ⟨some [f, f, t, f], .move (.s [t, t]), none⟩,
  ⟨some [t, f, t, f], .move (.s [f, t]), none⟩,
  ⟨some [f, t, t, f], .idxSl 1 (.s [f, f, t, f]) (.s [t, f, t, f]), none⟩,
  ⟨none, .store 1 (.s [f, t, t, f]) (.c (.bool t)), none⟩]) : CCode)) false true
def c69_o7 : CCode := (fun (f t : Bool) => (.trim [[], [f, f], [t, f], [f, t], [t, t]] (.ops [
  ⟨some [f, f, f], .move (.c (.int .i64 0)), none⟩]) : CCode)) false true
def c69_o8 : CCode := (fun (f t : Bool) => (.trim [[], [f, f], [t, f], [f, t], [t, t], [f, f, f]] (.ops [
  ⟨some [t, t, t, f], .move (.s [f, f, f]), none⟩,
  ⟨some [f, f, f, t], .move (.s [f, f]), none⟩,
  ⟨some [t, f, f, t], .bin .lss (.s [t, t, t, f]) (.s [f, f, f, t]), none⟩]) : CCode)) false true
def c69_o9 : CCode := (fun (f t : Bool) => (.trim [[], [f, f], [t, f], [f, t], [t, t], [f, f, f]] (.ops [
  ⟨some [t, f, f], .move (.c (.int .i64 0)), none⟩]) : CCode)) false true
def c69_o10 : CCode := (fun (f t : Bool) => (.trim [[], [f, f], [t, f], [f, t], [t, t], [f, f, f], [t, f, f]] (.ops [
  ⟨some [f, f, t, t], .move (.s [t, f, f]), none⟩,
  ⟨some [t, f, t, t], .move (.s [f, f]), none⟩,
  ⟨some [f, t, t, t], .bin .lss (.s [f, f, t, t]) (.s [t, f, t, t]), none⟩]) : CCode)) false true
def c69_o11 : CCode := (fun (f t : Bool) => (.trim [[], [f, f], [t, f], [f, t], [t, t], [f, f, f], [t, f, f]] (.ops [
  ⟨some [f, t, f], .move (.c (.int .i64 0)), none⟩]) : CCode)) false true
def c69_o12 : CCode := (fun (f t : Bool) => (.trim [[], [f, f], [t, f], [f, t], [t, t], [f, f, f], [t, f, f], [f, t, f]] (.ops [
  ⟨some [t, f, f, f, f], .move (.s [f, t, f]), none⟩,
  ⟨some [f, t, f, f, f], .move (.s [f, f]), none⟩,
  ⟨some [t, t, f, f, f], .bin .lss (.s [t, f, f, f, f]) (.s [f, t, f, f, f]), none⟩]) : CCode)) false true
def c69_o13 : CCode := (fun (f t : Bool) => (.trim [[], [f, f], [t, f], [f, t], [t, t], [f, f, f], [t, f, f], [f, t, f]] (.ops [
  ⟨some [f, t, t, f, f], .move (.s [t, t]), none⟩,
  ⟨some [t, t, t, f, f], .move (.s [f, t, f]), none⟩,
  ⟨some [f, f, f, t, f], .move (.s [t, t]), none⟩,
  ⟨some [t, f, f, t, f], .move (.s [f, t, f]), none⟩,
  ⟨some [f, t, f, t, f], .idxSl 1 (.s [f, f, f, t, f]) (.s [t, f, f, t, f]), none⟩,
  ⟨some [t, t, f, t, f], .load none (.s [f, t, f, t, f]), none⟩,
  ⟨some [f, f, t, t, f], .move (.s [t, t, f, t, f]), none⟩,
  ⟨some [t, f, t, t, f], .move (.s [t, t]), some ([f, f, t, t, f], f)⟩,
  ⟨some [f, t, t, t, f], .move (.s [t, f, f]), some ([f, f, t, t, f], f)⟩,
  ⟨some [t, t, t, t, f], .idxSl 1 (.s [t, f, t, t, f]) (.s [f, t, t, t, f]), some ([f, f, t, t, f], f)⟩,
  ⟨some [f, f, f, f, t], .load none (.s [t, t, t, t, f]), some ([f, f, t, t, f], f)⟩,
  ⟨some [t, f, f, f, t], .move (.s [f, f, f, f, t]), some ([f, f, t, t, f], f)⟩,
  ⟨some [f, t, f, f, t], .move (.s []), some ([t, f, f, f, t], t)⟩,
  ⟨some [t, t, f, f, t], .move (.s [t, f, f]), some ([t, f, f, f, t], t)⟩,
  ⟨some [f, f, t, f, t], .idxSl 1 (.s [f, t, f, f, t]) (.s [t, t, f, f, t]), some ([t, f, f, f, t], t)⟩,
  ⟨some [t, f, t, f, t], .load none (.s [f, f, t, f, t]), some ([t, f, f, f, t], t)⟩,
  ⟨some [f, t, t, f, t], .move (.s [f, t, f]), some ([t, f, f, f, t], t)⟩,
  ⟨some [t, t, t, f, t], .idxSl 1 (.s [t, f, t, f, t]) (.s [f, t, t, f, t]), some ([t, f, f, f, t], t)⟩,
  ⟨some [f, f, f, t, t], .load none (.s [t, t, t, f, t]), some ([t, f, f, f, t], t)⟩,
  ⟨some [t, f, f, t, t], .bin .gtr (.s [f, f, f, t, t]) (.c (.int .i64 0)), some ([t, f, f, f, t], t)⟩,
  ⟨some [f, t, f, t, t], .pick (.s [t, f, f, f, t]) (.s [t, f, f, t, t]) (.c (.bool f)), some ([f, f, t, t, f], f)⟩,
  ⟨some [t, t, f, t, t], .pick (.s [f, f, t, t, f]) (.c (.bool t)) (.s [f, t, f, t, t]), none⟩,
  ⟨some [f, f, t, t, t], .idxSl 1 (.s [f, t, t, f, f]) (.s [t, t, t, f, f]), none⟩,
  ⟨none, .store 1 (.s [f, f, t, t, t]) (.s [t, t, f, t, t]), none⟩]) : CCode)) false true
def c69_o14 : CCode := (fun (f t : Bool) => (.trim [[], [f, f], [t, f], [f, t], [t, t], [f, f, f], [t, f, f], [f, t, f]] (.ops [
  ⟨some [f, f, t, f, f], .move (.s [f, t, f]), none⟩,
  ⟨some [t, f, t, f, f], .bin .add (.s [f, f, t, f, f]) (.c (.int .i64 1)), none⟩,
  ⟨some [f, t, f], .move (.s [t, f, t, f, f]), none⟩]) : CCode)) false true
def c69_b0 : CCode := (fun (f t : Bool) => ((.seq (.seq c69_o12
 (.cond (.s [t, t, f, f, f]) .skip (.exit 6)))
 (.seq (.block 7 c69_o13)
 c69_o14)) : CCode)) false true
def c69_l0 : CCode := (fun (f t : Bool) => (.loop [[], [f, f], [t, f], [f, t], [t, t], [f, f, f], [t, f, f], [f, t, f]] c69_b0 : CCode)) false true
def c69_o15 : CCode := (fun (f t : Bool) => (.trim [[], [f, f], [t, f], [f, t], [t, t], [f, f, f], [t, f, f]] (.ops [
  ⟨some [t, t, t, t], .move (.s [t, f, f]), none⟩,
  ⟨some [f, f, f, f, f], .bin .add (.s [t, t, t, t]) (.c (.int .i64 1)), none⟩,
  ⟨some [t, f, f], .move (.s [f, f, f, f, f]), none⟩]) : CCode)) false true
def c69_b1 : CCode := (fun (f t : Bool) => ((.seq (.seq c69_o10
 (.cond (.s [f, t, t, t]) .skip (.exit 4)))
 (.seq (.block 5 (.seq c69_o11
 (.block 6 c69_l0)))
 c69_o15)) : CCode)) false true
def c69_l1 : CCode := (fun (f t : Bool) => (.loop [[], [f, f], [t, f], [f, t], [t, t], [f, f, f], [t, f, f]] c69_b1 : CCode)) false true
def c69_o16 : CCode := (fun (f t : Bool) => (.trim [[], [f, f], [t, f], [f, t], [t, t], [f, f, f]] (.ops [
  ⟨some [f, t, f, t], .move (.s [f, f, f]), none⟩,
  ⟨some [t, t, f, t], .bin .add (.s [f, t, f, t]) (.c (.int .i64 1)), none⟩,
  ⟨some [f, f, f], .move (.s [t, t, f, t]), none⟩]) : CCode)) false true
def c69_b2 : CCode := (fun (f t : Bool) => ((.seq (.seq c69_o8
 (.cond (.s [t, f, f, t]) .skip (.exit 2)))
 (.seq (.block 3 (.seq c69_o9
 (.block 4 c69_l1)))
 c69_o16)) : CCode)) false true
def c69_l2 : CCode := (fun (f t : Bool) => (.loop [[], [f, f], [t, f], [f, t], [t, t], [f, f, f]] c69_b2 : CCode)) false true
def c69_o17 : CCode := (fun (f t : Bool) => (.trim [[], [f, f], [t, f], [f, t], [t, t]] (.ops [
  ⟨some [t, f, t, t, t], .move (.s [t, f]), none⟩,
  ⟨some [f, t, t, t, t], .move (.s [t, t]), none⟩,
  ⟨some [t, t, t, t, t], .buildSlice none 1 1 [.nils] [(0, 1, (.s [f, t, t, t, t]))], none⟩,
  ⟨some [f, f, f, f, f, f], .append none 1 24 (.s [t, f, t, t, t]) (.s [t, t, t, t, t]), none⟩,
  ⟨some [t, f], .move (.s [f, f, f, f, f, f]), none⟩]) : CCode)) false true
def c69_o18 : CCode := (fun (f t : Bool) => (.trim [[], [f, f], [t, f], [f, t]] (.ops [
  ⟨some [f, f, f, f], .move (.s [f, t]), none⟩,
  ⟨some [t, f, f, f], .bin .add (.s [f, f, f, f]) (.c (.int .i64 1)), none⟩,
  ⟨some [f, t], .move (.s [t, f, f, f]), none⟩]) : CCode)) false true
def c69_b3 : CCode := (fun (f t : Bool) => ((.seq (.seq c69_o4
 (.cond (.s [t, t, t]) .skip (.exit 0)))
 (.seq (.block 1 (.seq c69_o5
 (.seq c69_o6
 (.seq (.seq c69_o7
 (.block 2 c69_l2))
 c69_o17))))
 c69_o18)) : CCode)) false true
def c69_l3 : CCode := (fun (f t : Bool) => (.loop [[], [f, f], [t, f], [f, t]] c69_b3 : CCode)) false true
def c69_o19 : CCode := (fun (f t : Bool) => (.trim [[t, f]] (.ops [
  ⟨some [t, f, f, f, f, f], .move (.s [t, f]), none⟩,
  ⟨some [t], .move (.s [t, f, f, f, f, f]), none⟩]) : CCode)) false true
def c69 : CFunc := (fun (f t : Bool) => ({ params := [[]], results := [.slot [t]], shared := f, body := (.seq c69_o0
 (.seq c69_o1
 (.seq c69_o2
 (.seq (.seq c69_o3
 (.block 0 c69_l3))
 (.seq c69_o19
 .ret))))) } : CFunc)) false true
def c72_o0 : CCode := (fun (f t : Bool) => (.trim [[]] (.ops [
  ⟨some [f], .box none (.s []), none⟩,
  ⟨some [t], .alloc none (List.replicate 64 (.int .i64 0)), none⟩]) : CCode)) false true
def c72_o1 : CCode := (fun (f t : Bool) => (.trim [[f], [t]] (.ops [
  ⟨some [f, f], .alloc none (List.replicate 64 (.int .i64 0)), none⟩]) : CCode)) false true
def c72_o2 : CCode := (fun (f t : Bool) => (.trim [[f], [t], [f, f]] (.ops [
  ⟨some [f, t], .fieldAddr 0 (.s [f]), none⟩,
  ⟨some [t, t], .load none (.s [f, t]), none⟩,
  ⟨some [f, f, f], .move (.c (.int .i64 0)), none⟩]) : CCode)) false true
def c72_o3 : CCode := (fun (f t : Bool) => (.trim [[t], [f, f], [t, t], [f, f, f]] (.ops [
  ⟨some [t, f, f], .bin .lss (.s [f, f, f]) (.s [t, t]), none⟩]) : CCode)) false true
def c72_o4 : CCode := (fun (f t : Bool) => (.trim [[t], [f, f], [t, t], [f, f, f]] (.ops [
  ⟨some [f, t, f], .move (.s [f, f, f]), none⟩,
  ⟨some [t, f], .move (.s [f, t, f]), none⟩]) : CCode)) false true
def c72_o5 : CCode := (fun (f t : Bool) => (.trim [[t], [f, f], [t, f], [t, t], [f, f, f]] (.ops [
  ⟨some [t, t, f], .move (.s [t, f]), none⟩,
  ⟨some [f, f, t], .move (.s [t, f]), none⟩,
  ⟨some [t, f, t], .idxArr 8 8 (.s [f, f]) (.s [t, t, f]), none⟩,
  ⟨some [f, t, t], .idxArr 8 1 (.s [t, f, t]) (.s [f, f, t]), none⟩,
  ⟨none, .store 1 (.s [f, t, t]) (.c (.int .i64 1)), none⟩]) : CCode)) false true
def c72_o6 : CCode := (fun (f t : Bool) => (.trim [[t], [f, f], [t, t], [f, f, f]] (.ops [
  ⟨some [t, t, t], .bin .add (.s [f, f, f]) (.c (.int .i64 1)), none⟩,
  ⟨some [f, f, f], .move (.s [t, t, t]), none⟩]) : CCode)) false true
def c72_b0 : CCode := (fun (f t : Bool) => ((.seq c72_o3
 (.seq (.cond (.s [t, f, f]) .skip (.exit 0))
 (.seq (.block 1 (.seq c72_o4
 c72_o5))
 c72_o6))) : CCode)) false true
def c72_l0 : CCode := (fun (f t : Bool) => (.loop [[t], [f, f], [t, t], [f, f, f]] c72_b0 : CCode)) false true
def c72_o7 : CCode := (fun (f t : Bool) => (.trim [[t], [f, f]] (.ops [
  ⟨some [f, f, f, f], .load (some 64) (.s [f, f]), none⟩,
  ⟨none, .store 64 (.s [t]) (.s [f, f, f, f]), none⟩]) : CCode)) false true
def c72 : CFunc := (fun (f t : Bool) => ({ params := [[]], results := [.cell [t] (some 64)], shared := f, body := (.seq c72_o0
 (.seq c72_o1
 (.seq (.seq c72_o2
 (.block 0 c72_l0))
 (.seq c72_o7
 .ret)))) } : CFunc)) false true
def c73_o0 : CCode := (fun (f t : Bool) => (.trim [[], [f], [t]] (.ops [
  ⟨some [f, f], .box none (.s []), none⟩,
  ⟨some [t, f], .box none (.s [f]), none⟩,
  ⟨some [f, t], .box none (.s [t]), none⟩,
  ⟨some [t, t], .alloc none (List.replicate 64 (.int .i64 0)), none⟩,
  ⟨some [f, f, f], .move (.c (.bool f)), none⟩]) : CCode)) false true
def c73_o1 : CCode := (fun (f t : Bool) => (.trim [[f, f], [t, f], [f, t], [t, t]] (.ops [
  ⟨some [t, f, f], .alloc none (List.replicate 64 (.int .i64 0)), none⟩]) : CCode)) false true
def c73_o2 : CCode := (fun (f t : Bool) => (.trim [[f, f], [t, f], [f, t], [t, t], [t, f, f]] (.ops [
  ⟨some [t, t, t], .fieldAddr 0 (.s [f, f]), none⟩,
  ⟨some [f, f, f, f], .load none (.s [t, t, t]), none⟩,
  ⟨some [t, f, f, f], .move (.c (.int .i64 0)), none⟩]) : CCode)) false true
def c73_o3 : CCode := (fun (f t : Bool) => (.trim [[f, f], [t, f], [f, t], [t, t], [t, f, f], [f, f, f, f], [t, f, f, f]] (.ops [
  ⟨some [f, t, f, f], .bin .lss (.s [t, f, f, f]) (.s [f, f, f, f]), none⟩]) : CCode)) false true
def c73_o4 : CCode := (fun (f t : Bool) => (.trim [[f, f], [t, f], [f, t], [t, t], [t, f, f], [f, f, f, f], [t, f, f, f]] (.ops [
  ⟨some [t, t, f, f], .move (.s [t, f, f, f]), none⟩,
  ⟨some [f, t, f], .move (.s [t, t, f, f]), none⟩]) : CCode)) false true
def c73_o5 : CCode := (fun (f t : Bool) => (.trim [[f, f], [t, f], [f, t], [t, t], [t, f, f], [f, t, f], [f, f, f, f], [t, f, f, f]] (.ops [
  ⟨some [f, f, t, f], .fieldAddr 0 (.s [f, f]), none⟩,
  ⟨some [t, f, t, f], .load none (.s [f, f, t, f]), none⟩,
  ⟨some [f, t, t, f], .move (.c (.int .i64 0)), none⟩]) : CCode)) false true
def c73_o6 : CCode := (fun (f t : Bool) => (.trim [[f, f], [t, f], [f, t], [t, t], [t, f, f], [f, t, f], [f, f, f, f], [t, f, f, f], [t, f, t, f], [f, t, t, f]] (.ops [
  ⟨some [t, t, t, f], .bin .lss (.s [f, t, t, f]) (.s [t, f, t, f]), none⟩]) : CCode)) false true
def c73_o7 : CCode := (fun (f t : Bool) => (.trim [[f, f], [t, f], [f, t], [t, t], [t, f, f], [f, t, f], [f, f, f, f], [t, f, f, f], [t, f, t, f], [f, t, t, f]] (.ops [
  ⟨some [f, f, f, t], .move (.s [f, t, t, f]), none⟩,
  ⟨some [t, t, f], .move (.s [f, f, f, t]), none⟩]) : CCode)) false true
def c73_o8 : CCode := (fun (f t : Bool) => (.trim [[f, f], [t, f], [f, t], [t, t], [t, f, f], [f, t, f], [t, t, f], [f, f, f, f], [t, f, f, f], [t, f, t, f], [f, t, t, f]] (.ops [
  ⟨some [t, f, f, t], .fieldAddr 0 (.s [f, f]), none⟩,
  ⟨some [f, t, f, t], .load none (.s [t, f, f, t]), none⟩,
  ⟨some [t, t, f, t], .move (.c (.int .i64 0)), none⟩]) : CCode)) false true
def c73_o9 : CCode := (fun (f t : Bool) => (.trim [[f, f], [t, f], [f, t], [t, t], [t, f, f], [f, t, f], [t, t, f], [f, f, f, f], [t, f, f, f], [t, f, t, f], [f, t, t, f], [f, t, f, t], [t, t, f, t]] (.ops [
  ⟨some [f, f, t, t], .bin .lss (.s [t, t, f, t]) (.s [f, t, f, t]), none⟩]) : CCode)) false true
def c73_o10 : CCode := (fun (f t : Bool) => (.trim [[f, f], [t, f], [f, t], [t, t], [t, f, f], [f, t, f], [t, t, f], [f, f, f, f], [t, f, f, f], [t, f, t, f], [f, t, t, f], [f, t, f, t], [t, t, f, t]] (.ops [
  ⟨some [t, f, t, t], .move (.s [t, t, f, t]), none⟩,
  ⟨some [f, f, t], .move (.s [t, f, t, t]), none⟩]) : CCode)) false true
def c73_o11 : CCode := (fun (f t : Bool) => (.trim [[f, f], [t, f], [f, t], [t, t], [t, f, f], [f, t, f], [t, t, f], [f, f, t], [f, f, f, f], [t, f, f, f], [t, f, t, f], [f, t, t, f], [f, t, f, t], [t, t, f, t]] (.draw 0 [
  ⟨some [f, t, t, t], .move (.s [f, t, f]), none⟩,
  ⟨some [t, t, t, t], .move (.s [f, f, t]), none⟩,
  ⟨some [f, f, f, f, f], .idxArr 8 8 (.s [t, f]) (.s [f, t, t, t]), none⟩,
  ⟨some [t, f, f, f, f], .idxArr 8 1 (.s [f, f, f, f, f]) (.s [t, t, t, t]), none⟩,
  ⟨some [f, t, f, f, f], .load none (.s [t, f, f, f, f]), none⟩,
  ⟨some [t, t, f, f, f], .move (.s [f, f, t]), none⟩,
  ⟨some [f, f, t, f, f], .move (.s [t, t, f]), none⟩,
  ⟨some [t, f, t, f, f], .idxArr 8 8 (.s [f, t]) (.s [t, t, f, f, f]), none⟩,
  ⟨some [f, t, t, f, f], .idxArr 8 1 (.s [t, f, t, f, f]) (.s [f, f, t, f, f]), none⟩,
  ⟨some [t, t, t, f, f], .load none (.s [f, t, t, f, f]), none⟩,
  ⟨some [t, f, t], .move (.s [f, t, f, f, f]), none⟩,
  ⟨some [f, t, t], .move (.s [t, t, t, f, f]), none⟩]
  [(4, 9)] [[], [], [0], [0, 1, 2], [0, 1, 2, 3], [], [], [5], [5, 6, 7], [5, 6, 7, 8], (r 5), (r 11)]) : CCode)) false true
def c73_o12 : CCode := (fun (f t : Bool) => (.trim [[f, f], [t, f], [f, t], [t, t], [t, f, f], [f, t, f], [t, t, f], [t, f, t], [f, t, t], [f, f, f, f], [t, f, f, f], [t, f, t, f], [f, t, t, f], [f, t, f, t], [t, t, f, t]] (.ops [
  ⟨some [f, f, f, t, f], .move (.s [f, t, t]), none⟩,
  ⟨some [t, f, f, t, f], .bin .gtr (.s [f, f, f, t, f]) (.c (.int .i64 0)), none⟩,
  ⟨some [f, t, f, t, f], .move (.s [t, f, f, t, f]), none⟩,
  ⟨some [t, t, f, t, f], .move (.s [t, f, t]), some ([f, t, f, t, f], t)⟩,
  ⟨some [f, f, t, t, f], .move (.s [f, t, t]), some ([f, t, f, t, f], t)⟩,
  ⟨some [t, f, t, t, f], .bin .quo (.c (.int .i64 1152921504606846976)) (.s [f, f, t, t, f]), some ([f, t, f, t, f], t)⟩,
  ⟨some [f, t, t, t, f], .bin .gtr (.s [t, t, f, t, f]) (.s [t, f, t, t, f]), some ([f, t, f, t, f], t)⟩,
  ⟨some [t, t, t, t, f], .pick (.s [f, t, f, t, f]) (.s [f, t, t, t, f]) (.c (.bool f)), none⟩]) : CCode)) false true
def c73_o13 : CCode := (fun (f t : Bool) => (.trim [[t, t]] (.ops [
  ⟨some [f, f, f, f, t], .build (List.replicate 64 (.int .i64 0)) [], none⟩,
  ⟨none, .store 64 (.s [t, t]) (.s [f, f, f, f, t]), none⟩,
  ⟨some [f, f, f], .move (.c (.bool f)), none⟩]) : CCode)) false true
def c73_o14 : CCode := (fun (f t : Bool) => (.trim [[f, f], [t, f], [f, t], [t, t], [t, f, f], [f, t, f], [t, t, f], [t, f, t], [f, t, t], [f, f, f, f], [t, f, f, f], [t, f, t, f], [f, t, t, f], [f, t, f, t], [t, t, f, t]] (.draw 0 [
  ⟨some [t, f, f, f, t], .move (.s [f, t, f]), none⟩,
  ⟨some [f, t, f, f, t], .move (.s [t, t, f]), none⟩,
  ⟨some [t, t, f, f, t], .idxArr 8 8 (.s [t, f, f]) (.s [t, f, f, f, t]), none⟩,
  ⟨some [f, f, t, f, t], .idxArr 8 1 (.s [t, t, f, f, t]) (.s [f, t, f, f, t]), none⟩,
  ⟨some [t, f, t, f, t], .load none (.s [f, f, t, f, t]), none⟩,
  ⟨some [f, t, t, f, t], .move (.s [t, f, t]), none⟩,
  ⟨some [t, t, t, f, t], .move (.s [f, t, t]), none⟩,
  ⟨some [f, f, f, t, t], .bin .mul (.s [f, t, t, f, t]) (.s [t, t, t, f, t]), none⟩,
  ⟨some [t, f, f, t, t], .bin .add (.s [t, f, t, f, t]) (.s [f, f, f, t, t]), none⟩,
  ⟨some [f, t, f, t, t], .idxArr 8 8 (.s [t, f, f]) (.s [t, f, f, f, t]), none⟩,
  ⟨some [t, t, f, t, t], .idxArr 8 1 (.s [f, t, f, t, t]) (.s [f, t, f, f, t]), none⟩,
  ⟨none, .store 1 (.s [t, t, f, t, t]) (.s [t, f, f, t, t]), none⟩]
  [] [[], [], [0], [0, 1, 2], [0, 1, 2, 3], [], [], [5, 6], (r 8), [0], (r 10), (r 11)]) : CCode)) false true
def c73_o15 : CCode := (fun (f t : Bool) => (.trim [[f, f], [t, f], [f, t], [t, t], [t, f, f], [f, t, f], [t, t, f], [f, f, f, f], [t, f, f, f], [t, f, t, f], [f, t, t, f], [f, t, f, t], [t, t, f, t]] (.ops [
  ⟨some [f, f, t, t, t], .move (.s [f, t, f]), none⟩,
  ⟨some [t, f, t, t, t], .move (.s [t, t, f]), none⟩,
  ⟨some [f, t, t, t, t], .idxArr 8 8 (.s [t, f, f]) (.s [f, f, t, t, t]), none⟩,
  ⟨some [t, t, t, t, t], .idxArr 8 1 (.s [f, t, t, t, t]) (.s [t, f, t, t, t]), none⟩,
  ⟨some [f, f, f, f, f, f], .load none (.s [t, t, t, t, t]), none⟩,
  ⟨some [t, f, f, f, f, f], .bin .gtr (.s [f, f, f, f, f, f]) (.c (.int .i64 1152921504606846976)), none⟩]) : CCode)) false true
def c73_o16 : CCode := (fun (f t : Bool) => (.trim [[t, t]] (.ops [
  ⟨some [f, t, f, f, f, f], .build (List.replicate 64 (.int .i64 0)) [], none⟩,
  ⟨none, .store 64 (.s [t, t]) (.s [f, t, f, f, f, f]), none⟩,
  ⟨some [f, f, f], .move (.c (.bool f)), none⟩]) : CCode)) false true
def c73_o17 : CCode := (fun (f t : Bool) => (.trim [[f, f], [t, f], [f, t], [t, t], [t, f, f], [f, t, f], [t, t, f], [f, f, f, f], [t, f, f, f], [t, f, t, f], [f, t, t, f], [f, t, f, t], [t, t, f, t]] (.ops [
  ⟨some [t, t, f, f, f, f], .bin .add (.s [t, t, f, t]) (.c (.int .i64 1)), none⟩,
  ⟨some [t, t, f, t], .move (.s [t, t, f, f, f, f]), none⟩]) : CCode)) false true
def c73_b0 : CCode := (fun (f t : Bool) => ((.seq c73_o9
 (.seq (.cond (.s [f, f, t, t]) .skip (.exit 4))
 (.seq (.block 5 (.seq c73_o10
 (.seq c73_o11
 (.seq (.seq c73_o12
 (.cond (.s [t, t, t, t, f]) (.seq c73_o13
 .ret) .skip))
 (.seq c73_o14
 (.seq c73_o15
 (.cond (.s [t, f, f, f, f, f]) (.seq c73_o16
 .ret) .skip)))))))
 c73_o17))) : CCode)) false true
def c73_l0 : CCode := (fun (f t : Bool) => (.loop [[f, f], [t, f], [f, t], [t, t], [t, f, f], [f, t, f], [t, t, f], [f, f, f, f], [t, f, f, f], [t, f, t, f], [f, t, t, f], [f, t, f, t], [t, t, f, t]] c73_b0 : CCode)) false true
def c73_o18 : CCode := (fun (f t : Bool) => (.trim [[f, f], [t, f], [f, t], [t, t], [t, f, f], [f, t, f], [f, f, f, f], [t, f, f, f], [t, f, t, f], [f, t, t, f]] (.ops [
  ⟨some [f, f, t, f, f, f], .bin .add (.s [f, t, t, f]) (.c (.int .i64 1)), none⟩,
  ⟨some [f, t, t, f], .move (.s [f, f, t, f, f, f]), none⟩]) : CCode)) false true
def c73_b1 : CCode := (fun (f t : Bool) => ((.seq c73_o6
 (.seq (.cond (.s [t, t, t, f]) .skip (.exit 2))
 (.seq (.block 3 (.seq c73_o7
 (.seq c73_o8
 (.block 4 c73_l0))))
 c73_o18))) : CCode)) false true
def c73_l1 : CCode := (fun (f t : Bool) => (.loop [[f, f], [t, f], [f, t], [t, t], [t, f, f], [f, t, f], [f, f, f, f], [t, f, f, f], [t, f, t, f], [f, t, t, f]] c73_b1 : CCode)) false true
def c73_o19 : CCode := (fun (f t : Bool) => (.trim [[f, f], [t, f], [f, t], [t, t], [t, f, f], [f, f, f, f], [t, f, f, f]] (.ops [
  ⟨some [t, f, t, f, f, f], .bin .add (.s [t, f, f, f]) (.c (.int .i64 1)), none⟩,
  ⟨some [t, f, f, f], .move (.s [t, f, t, f, f, f]), none⟩]) : CCode)) false true
def c73_b2 : CCode := (fun (f t : Bool) => ((.seq c73_o3
 (.seq (.cond (.s [f, t, f, f]) .skip (.exit 0))
 (.seq (.block 1 (.seq c73_o4
 (.seq c73_o5
 (.block 2 c73_l1))))
 c73_o19))) : CCode)) false true
def c73_l2 : CCode := (fun (f t : Bool) => (.loop [[f, f], [t, f], [f, t], [t, t], [t, f, f], [f, f, f, f], [t, f, f, f]] c73_b2 : CCode)) false true
def c73_o20 : CCode := (fun (f t : Bool) => (.trim [[t, t], [t, f, f]] (.ops [
  ⟨some [f, t, t, f, f, f], .load (some 64) (.s [t, f, f]), none⟩,
  ⟨none, .store 64 (.s [t, t]) (.s [f, t, t, f, f, f]), none⟩,
  ⟨some [f, f, f], .move (.c (.bool t)), none⟩]) : CCode)) false true
def c73 : CFunc := (fun (f t : Bool) => ({ params := [[], [f], [t]], results := [.cell [t, t] (some 64), .slot [f, f, f]], shared := f, body := (.seq c73_o0
 (.seq c73_o1
 (.seq (.seq c73_o2
 (.block 0 c73_l2))
 (.seq c73_o20
 .ret)))) } : CFunc)) false true
def c74_o0 : CCode := (fun (f t : Bool) => (.trim [[], [f]] (.ops [
  ⟨some [t], .box none (.s []), none⟩,
  ⟨some [f, f], .box none (.s [f]), none⟩,
  ⟨some [t, f], .move (.c (.nils)), none⟩]) : CCode)) false true
def c74_o1 : CCode := (fun (f t : Bool) => (.trim [[t], [f, f]] (.ops [
  ⟨some [f, t], .move (.c (.nils)), none⟩]) : CCode)) false true
def c74_o2 : CCode := (fun (f t : Bool) => (.trim [[t], [f, f], [f, t]] (.ops [
  ⟨some [f, f, f], .fieldAddr 0 (.s [t]), none⟩,
  ⟨some [t, f, f], .load none (.s [f, f, f]), none⟩,
  ⟨some [f, t, f], .move (.c (.int .i64 0)), none⟩]) : CCode)) false true
def c74_o3 : CCode := (fun (f t : Bool) => (.trim [[t], [f, f], [f, t], [t, f, f], [f, t, f]] (.ops [
  ⟨some [t, t, f], .bin .lss (.s [f, t, f]) (.s [t, f, f]), none⟩]) : CCode)) false true
def c74_o4 : CCode := (fun (f t : Bool) => (.trim [[t], [f, f], [f, t], [t, f, f], [f, t, f]] (.ops [
  ⟨some [f, f, t], .move (.s [f, t, f]), none⟩,
  ⟨some [t, t], .move (.s [f, f, t]), none⟩]) : CCode)) false true
def c74_o5 : CCode := (fun (f t : Bool) => (.trim [[t], [f, f], [f, t], [t, t], [t, f, f], [f, t, f]] (.draw 2 [
  ⟨some [t, f, t], .move (.s [f, t]), none⟩,
  ⟨some [f, t, t], .move (.s [t, t]), none⟩,
  ⟨some [t, t, t], .idxArr 8 8 (.s [f, f]) (.s [f, t, t]), none⟩,
  ⟨some [f, f, f, f], .fieldAddr 0 (.s [t]), none⟩,
  ⟨some [t, f, f, f], .load none (.s [f, f, f, f]), none⟩,
  ⟨some [f, t, f, f], .slArr 8 1 (.s [t, t, t]) none (some (.s [t, f, f, f])), none⟩,
  ⟨some [t, t, f, f], .call f (.c (.func 79 [])) [(.s [f, t, f, f])], none⟩,
  ⟨some [f, f, t, f], .buildSlice (some 0) 1 1 [.nils] [(0, 1, (.s [t, t, f, f]))], none⟩,
  ⟨some [t, f, t, f], .append (some 1) 1 24 (.s [t, f, t]) (.s [f, f, t, f]), none⟩,
  ⟨some [f, t], .move (.s [t, f, t, f]), none⟩]
  [] [[], [], [1], [], [3], [1, 2, 3, 4], [1, 2, 3, 4, 5], [1, 2, 3, 4, 5, 6], (r 8), (r 9)]) : CCode)) false true
def c74_o6 : CCode := (fun (f t : Bool) => (.trim [[t], [f, f], [f, t], [t, f, f], [f, t, f]] (.ops [
  ⟨some [f, t, t, f], .bin .add (.s [f, t, f]) (.c (.int .i64 1)), none⟩,
  ⟨some [f, t, f], .move (.s [f, t, t, f]), none⟩]) : CCode)) false true
def c74_b0 : CCode := (fun (f t : Bool) => ((.seq c74_o3
 (.seq (.cond (.s [t, t, f]) .skip (.exit 0))
 (.seq (.block 1 (.seq c74_o4
 c74_o5))
 c74_o6))) : CCode)) false true
def c74_l0 : CCode := (fun (f t : Bool) => (.loop [[t], [f, f], [f, t], [t, f, f], [f, t, f]] c74_b0 : CCode)) false true
def c74_o7 : CCode := (fun (f t : Bool) => (.trim [[f, t]] (.ops [
  ⟨some [t, t, t, f], .move (.s [f, t]), none⟩,
  ⟨some [t, f], .move (.s [t, t, t, f]), none⟩]) : CCode)) false true
def c74 : CFunc := (fun (f t : Bool) => ({ params := [[], [f]], results := [.slot [t, f]], shared := f, body := (.seq c74_o0
 (.seq c74_o1
 (.seq (.seq c74_o2
 (.block 0 c74_l0))
 (.seq c74_o7
 .ret)))) } : CFunc)) false true
def c75_o0 : CCode := (fun (f t : Bool) => (.trim [[], [f], [t], [f, f]] (.ops [
  ⟨some [t, f], .box none (.s []), none⟩,
  ⟨some [t, f, f], .move (.c (.bool f)), none⟩]) : CCode)) false true
def c75_o1 : CCode := (fun (f t : Bool) => (.trim [[f], [t], [f, f], [t, f]] (.ops [
  ⟨some [f, f, t], .fieldAddr 0 (.s [t, f]), none⟩,
  ⟨some [t, f, t], .load none (.s [f, f, t]), none⟩,
  ⟨some [f, t, t], .move (.c (.int .i64 0)), none⟩]) : CCode)) false true
def c75_o2 : CCode := (fun (f t : Bool) => (.trim [[f], [t], [f, f], [t, f], [t, f, t], [f, t, t]] (.ops [
  ⟨some [t, t, t], .bin .lss (.s [f, t, t]) (.s [t, f, t]), none⟩]) : CCode)) false true
def c75_o3 : CCode := (fun (f t : Bool) => (.trim [[f], [t], [f, f], [t, f], [t, f, t], [f, t, t]] (.ops [
  ⟨some [f, f, f, f], .move (.s [f, t, t]), none⟩,
  ⟨some [f, t, f], .move (.s [f, f, f, f]), none⟩]) : CCode)) false true
def c75_o4 : CCode := (fun (f t : Bool) => (.trim [[f], [t], [f, f], [t, f], [f, t, f], [t, f, t], [f, t, t]] (.ops [
  ⟨some [t, f, f, f], .fieldAddr 0 (.s [t, f]), none⟩,
  ⟨some [f, t, f, f], .load none (.s [t, f, f, f]), none⟩,
  ⟨some [t, t, f, f], .move (.c (.int .i64 0)), none⟩]) : CCode)) false true
def c75_o5 : CCode := (fun (f t : Bool) => (.trim [[f], [t], [f, f], [t, f], [f, t, f], [t, f, t], [f, t, t], [f, t, f, f], [t, t, f, f]] (.ops [
  ⟨some [f, f, t, f], .bin .lss (.s [t, t, f, f]) (.s [f, t, f, f]), none⟩]) : CCode)) false true
def c75_o6 : CCode := (fun (f t : Bool) => (.trim [[f], [t], [f, f], [t, f], [f, t, f], [t, f, t], [f, t, t], [f, t, f, f], [t, t, f, f]] (.ops [
  ⟨some [t, f, t, f], .move (.s [t, t, f, f]), none⟩,
  ⟨some [t, t, f], .move (.s [t, f, t, f]), none⟩]) : CCode)) false true
def c75_o7 : CCode := (fun (f t : Bool) => (.trim [[f], [t], [f, f], [t, f], [f, t, f], [t, t, f], [t, f, t], [f, t, t], [f, t, f, f], [t, t, f, f]] (.ops [
  ⟨some [f, t, t, f], .move (.s [f, t, f]), none⟩,
  ⟨some [t, t, t, f], .move (.s [t, t, f]), none⟩,
  ⟨some [f, f, f, t], .fieldAddr 1 (.s [t, f]), none⟩,
  ⟨some [t, f, f, t], .idxArr 8 8 (.s [f, f, f, t]) (.s [f, t, t, f]), none⟩,
  ⟨some [f, t, f, t], .idxArr 8 1 (.s [t, f, f, t]) (.s [t, t, t, f]), none⟩,
  ⟨some [t, t, f, t], .load none (.s [f, t, f, t]), none⟩,
  ⟨some [f, f, t, t], .bin .gtr (.s [t, t, f, t]) (.c (.int .i64 0)), none⟩,
  ⟨some [t, f, t, t], .move (.s [f, f, t, t]), none⟩,
  ⟨some [f, t, t, t], .move (.s [f]), some ([t, f, t, t], t)⟩,
  ⟨some [t, t, t, t], .move (.s [t, t, f]), some ([t, f, t, t], t)⟩,
  ⟨some [f, f, f, f, f], .idxSl 1 (.s [f, t, t, t]) (.s [t, t, t, t]), some ([t, f, t, t], t)⟩,
  ⟨some [t, f, f, f, f], .load none (.s [f, f, f, f, f]), some ([t, f, t, t], t)⟩,
  ⟨some [f, t, f, f, f], .move (.s [f, f]), some ([t, f, t, t], t)⟩,
  ⟨some [t, t, f, f, f], .bin .eql (.s [t, f, f, f, f]) (.s [f, t, f, f, f]), some ([t, f, t, t], t)⟩,
  ⟨some [f, f, t, f, f], .pick (.s [t, f, t, t]) (.s [t, t, f, f, f]) (.c (.bool f)), none⟩,
  ⟨some [t, f, t, f, f], .move (.s [f, f, t, f, f]), none⟩,
  ⟨some [f, t, t, f, f], .move (.s [f]), some ([t, f, t, f, f], t)⟩,
  ⟨some [t, t, t, f, f], .move (.s [f, t, f]), some ([t, f, t, f, f], t)⟩,
  ⟨some [f, f, f, t, f], .idxSl 1 (.s [f, t, t, f, f]) (.s [t, t, t, f, f]), some ([t, f, t, f, f], t)⟩,
  ⟨some [t, f, f, t, f], .load none (.s [f, f, f, t, f]), some ([t, f, t, f, f], t)⟩,
  ⟨some [f, t, f, t, f], .move (.s [f, f]), some ([t, f, t, f, f], t)⟩,
  ⟨some [t, t, f, t, f], .bin .neq (.s [t, f, f, t, f]) (.s [f, t, f, t, f]), some ([t, f, t, f, f], t)⟩,
  ⟨some [f, f, t, t, f], .pick (.s [t, f, t, f, f]) (.s [t, t, f, t, f]) (.c (.bool f)), none⟩,
  ⟨some [t, f, t, t, f], .move (.s [f, f, t, t, f]), none⟩,
  ⟨some [f, t, t, t, f], .move (.s [t]), some ([t, f, t, t, f], t)⟩,
  ⟨some [t, t, t, t, f], .move (.s [f, t, f]), some ([t, f, t, t, f], t)⟩,
  ⟨some [f, f, f, f, t], .lookup (.i .i64) (.bool f) f (.s [f, t, t, t, f]) (.s [t, t, t, t, f]), some ([t, f, t, t, f], t)⟩,
  ⟨some [t, f, f, f, t], .un .not (.s [f, f, f, f, t]), some ([t, f, t, t, f], t)⟩,
  ⟨some [f, t, f, f, t], .pick (.s [t, f, t, t, f]) (.s [t, f, f, f, t]) (.c (.bool f)), none⟩]) : CCode)) false true
def c75_o8 : CCode := (fun (f t : Bool) => (.trim [] (.ops [
  ⟨some [t, f, f], .move (.c (.bool f)), none⟩]) : CCode)) false true
def c75_o9 : CCode := (fun (f t : Bool) => (.trim [[f], [t], [f, f], [t, f], [f, t, f], [t, f, t], [f, t, t], [f, t, f, f], [t, t, f, f]] (.ops [
  ⟨some [t, t, f, f, t], .bin .add (.s [t, t, f, f]) (.c (.int .i64 1)), none⟩,
  ⟨some [t, t, f, f], .move (.s [t, t, f, f, t]), none⟩]) : CCode)) false true
def c75_b0 : CCode := (fun (f t : Bool) => ((.seq c75_o5
 (.seq (.cond (.s [f, f, t, f]) .skip (.exit 2))
 (.seq (.block 3 (.seq c75_o6
 (.seq c75_o7
 (.cond (.s [f, t, f, f, t]) (.seq c75_o8
 .ret) .skip))))
 c75_o9))) : CCode)) false true
def c75_l0 : CCode := (fun (f t : Bool) => (.loop [[f], [t], [f, f], [t, f], [f, t, f], [t, f, t], [f, t, t], [f, t, f, f], [t, t, f, f]] c75_b0 : CCode)) false true
def c75_o10 : CCode := (fun (f t : Bool) => (.trim [[f], [t], [f, f], [t, f], [t, f, t], [f, t, t]] (.ops [
  ⟨some [f, f, t, f, t], .bin .add (.s [f, t, t]) (.c (.int .i64 1)), none⟩,
  ⟨some [f, t, t], .move (.s [f, f, t, f, t]), none⟩]) : CCode)) false true
def c75_b1 : CCode := (fun (f t : Bool) => ((.seq c75_o2
 (.seq (.cond (.s [t, t, t]) .skip (.exit 0))
 (.seq (.block 1 (.seq c75_o3
 (.seq c75_o4
 (.block 2 c75_l0))))
 c75_o10))) : CCode)) false true
def c75_l1 : CCode := (fun (f t : Bool) => (.loop [[f], [t], [f, f], [t, f], [t, f, t], [f, t, t]] c75_b1 : CCode)) false true
def c75_o11 : CCode := (fun (f t : Bool) => (.trim [] (.ops [
  ⟨some [t, f, f], .move (.c (.bool t)), none⟩]) : CCode)) false true
def c75 : CFunc := (fun (f t : Bool) => ({ params := [[], [f], [t], [f, f]], results := [.slot [t, f, f]], shared := f, body := (.seq c75_o0
 (.seq (.seq c75_o1
 (.block 0 c75_l1))
 (.seq c75_o11
 .ret))) } : CFunc)) false true
def c76_o0 : CCode := (fun (f t : Bool) => (.trim [[], [f]] (.ops [
  ⟨some [t, f], .move (.c (.int .i64 0)), none⟩]) : CCode)) false true
def c76_o1 : CCode := (fun (f t : Bool) => (.trim [[], [f]] (.ops [
  ⟨some [t, t], .move (.s [f]), none⟩,
  ⟨some [f, f, f], .bin .gtr (.s [t, t]) (.c (.int .i64 0)), none⟩]) : CCode)) false true
def c76_o2 : CCode := (fun (f t : Bool) => (.trim [[], [f]] (.ops [
  ⟨some [t, f, f], .move (.s []), none⟩,
  ⟨some [f, t, f], .move (.s [f]), none⟩,
  ⟨some [t, t, f], .bin .rem (.s [t, f, f]) (.s [f, t, f]), none⟩,
  ⟨some [f, t], .move (.s [t, t, f]), none⟩]) : CCode)) false true
def c76_o3 : CCode := (fun (f t : Bool) => (.trim [[f], [f, t]] (.ops [
  ⟨some [f, f, t], .move (.s [f]), none⟩,
  ⟨some [], .move (.s [f, f, t]), none⟩]) : CCode)) false true
def c76_o4 : CCode := (fun (f t : Bool) => (.trim [[], [f, t]] (.ops [
  ⟨some [t, f, t], .move (.s [f, t]), none⟩,
  ⟨some [f], .move (.s [t, f, t]), none⟩]) : CCode)) false true
def c76_b0 : CCode := (fun (f t : Bool) => ((.seq (.seq c76_o1
 (.cond (.s [f, f, f]) .skip (.exit 0)))
 (.block 1 (.seq c76_o2
 (.seq c76_o3
 c76_o4)))) : CCode)) false true
def c76_l0 : CCode := (fun (f t : Bool) => (.loop [[], [f]] c76_b0 : CCode)) false true
def c76_o5 : CCode := (fun (f t : Bool) => (.trim [[]] (.ops [
  ⟨some [f, t, t], .move (.s []), none⟩,
  ⟨some [t, f], .move (.s [f, t, t]), none⟩]) : CCode)) false true
def c76 : CFunc := (fun (f t : Bool) => ({ params := [[], [f]], results := [.slot [t, f]], shared := f, body := (.seq c76_o0
 (.seq (.block 0 c76_l0)
 (.seq c76_o5
 .ret))) } : CFunc)) false true
def c77_o0 : CCode := (fun (f t : Bool) => (.trim [[]] (.ops [
  ⟨some [t], .move (.c (.bool f)), none⟩]) : CCode)) false true
def c77_o1 : CCode := (fun (f t : Bool) => (.trim [[]] (.ops [
  ⟨some [f, f], .move (.s []), none⟩,
  ⟨some [t, f], .call f (.c (.func 57 [])) [(.s [f, f]), (.c (.int .i64 0)), (.c (.int .i64 9))], none⟩,
  ⟨some [f, t], .un .not (.s [t, f]), none⟩,
  ⟨some [t], .move (.s [f, t]), none⟩]) : CCode)) false true
def c77 : CFunc := (fun (f t : Bool) => ({ params := [[]], results := [.slot [t]], shared := t, body := (.seq c77_o0
 (.seq c77_o1
 .ret)) } : CFunc)) false true
def c78_o0 : CCode := (fun (f t : Bool) => (.trim [[], [f]] (.ops [
  ⟨some [t, f], .move (.c (.int .i64 0)), none⟩]) : CCode)) false true
def c78_o1 : CCode := (fun (f t : Bool) => (.trim [[], [f]] (.ops [
  ⟨some [t, t], .move (.s []), none⟩,
  ⟨some [f, f, f], .len 1 (.s [t, t]), none⟩,
  ⟨some [t, f, f], .move (.c (.int .i64 0)), none⟩]) : CCode)) false true
def c78_o2 : CCode := (fun (f t : Bool) => (.trim [[], [f], [f, f, f], [t, f, f]] (.ops [
  ⟨some [f, t, f], .bin .lss (.s [t, f, f]) (.s [f, f, f]), none⟩]) : CCode)) false true
def c78_o3 : CCode := (fun (f t : Bool) => (.trim [[], [f], [f, f, f], [t, f, f]] (.ops [
  ⟨some [t, t, f], .move (.s [t, f, f]), none⟩,
  ⟨some [f, t], .move (.s [t, t, f]), none⟩]) : CCode)) false true
def c78_o4 : CCode := (fun (f t : Bool) => (.trim [[], [f], [f, t], [f, f, f], [t, f, f]] (.ops [
  ⟨some [f, f, t], .move (.s [f]), none⟩,
  ⟨some [t, f, t], .move (.s []), none⟩,
  ⟨some [f, t, t], .move (.s [f, t]), none⟩,
  ⟨some [t, t, t], .idxSl 1 (.s [t, f, t]) (.s [f, t, t]), none⟩,
  ⟨some [f, f, f, f], .load none (.s [t, t, t]), none⟩,
  ⟨some [t, f, f, f], .call f (.s [f, f, t]) [(.s [f, f, f, f])], none⟩]) : CCode)) false true
def c78_o5 : CCode := (fun (f t : Bool) => (.trim [[f, t]] (.ops [
  ⟨some [f, t, f, f], .move (.s [f, t]), none⟩,
  ⟨some [t, f], .move (.s [f, t, f, f]), none⟩]) : CCode)) false true
def c78_o6 : CCode := (fun (f t : Bool) => (.trim [[], [f], [f, f, f], [t, f, f]] (.ops [
  ⟨some [t, t, f, f], .bin .add (.s [t, f, f]) (.c (.int .i64 1)), none⟩,
  ⟨some [t, f, f], .move (.s [t, t, f, f]), none⟩]) : CCode)) false true
def c78_b0 : CCode := (fun (f t : Bool) => ((.seq c78_o2
 (.seq (.cond (.s [f, t, f]) .skip (.exit 0))
 (.seq (.block 1 (.seq c78_o3
 (.seq c78_o4
 (.cond (.s [t, f, f, f]) (.seq c78_o5
 .ret) .skip))))
 c78_o6))) : CCode)) false true
def c78_l0 : CCode := (fun (f t : Bool) => (.loop [[], [f], [f, f, f], [t, f, f]] c78_b0 : CCode)) false true
def c78_o7 : CCode := (fun (f t : Bool) => (.trim [] (.ops [
  ⟨some [t, f], .move (.c (.int .i64 (-1))), none⟩]) : CCode)) false true
def c78 : CFunc := (fun (f t : Bool) => ({ params := [[], [f]], results := [.slot [t, f]], shared := f, body := (.seq c78_o0
 (.seq (.seq c78_o1
 (.block 0 c78_l0))
 (.seq c78_o7
 .ret))) } : CFunc)) false true
def c79_o0 : CCode := (fun (f t : Bool) => (.trim [[]] (.ops [
  ⟨some [t], .move (.c (.nils)), none⟩]) : CCode)) false true
def c79_o1 : CCode := (fun (f t : Bool) => (.trim [[]] (.ops [
  ⟨some [f, f], .move (.s []), none⟩,
  ⟨some [t, f], .eqv 2 f (.s [f, f]) (.c (.nils)), none⟩]) : CCode)) false true
def c79_o2 : CCode := (fun (f t : Bool) => (.trim [] (.ops [
  ⟨some [t], .move (.c (.nils)), none⟩]) : CCode)) false true
def c79_o3 : CCode := (fun (f t : Bool) => (.trim [[]] (.ops [
  ⟨some [f, t], .buildSlice none 1 0 [] [], none⟩,
  ⟨some [t, t], .move (.s []), none⟩,
  ⟨some [f, f, f], .append none 1 8 (.s [f, t]) (.s [t, t]), none⟩,
  ⟨some [t], .move (.s [f, f, f]), none⟩]) : CCode)) false true
def c79 : CFunc := (fun (f t : Bool) => ({ params := [[]], results := [.slot [t]], shared := f, body := (.seq c79_o0
 (.seq (.seq c79_o1
 (.cond (.s [t, f]) (.seq c79_o2
 .ret) .skip))
 (.seq c79_o3
 .ret))) } : CFunc)) false true
end Go.Proofs.Ytjeemgaoonapgaa.Ev
