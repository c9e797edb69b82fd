/-
  The code of the program's functions as the evaluator takes it, printed by wip/tool/emit.py. SCheck ties each to the translation. No condition.
-/
import Derived.Test.YtlkgpcfhpeilhaaEv
namespace Go.Proofs.Ytlkgpcfhpeilhaa.Ev
open Go Go.AEv

private abbrev r := List.range

-- numnah/numnahlaw05.SamplePlans
-- c3_o0: 0=[] 1=[f] 2=[t]
-- c3_o1: 3=[f, f] 4=[t, f] 5=[f, t]
-- c3_o2: 4=[t, f] 5=[f, t] 7=[f, f, f] 8=[t, f, f] 9=[f, t, f]
-- c3_o3: 4=[t, f] 5=[f, t] 7=[f, f, f] 8=[t, f, f] 9=[f, t, f] 10=[t, t, f] 11=[f, f, t] 12=[t, f, t]
-- c3_o4: 10=[t, t, f] 11=[f, f, t] 12=[t, f, t]
-- c3_o5: 4=[t, f] 5=[f, t] 7=[f, f, f] 8=[t, f, f] 9=[f, t, f] 10=[t, t, f] 11=[f, f, t] 12=[t, f, t]
-- c3_o6: 4=[t, f] 5=[f, t] 7=[f, f, f] 8=[t, f, f] 9=[f, t, f] 10=[t, t, f] 11=[f, f, t] 12=[t, f, t] 13=[f, t, t]
-- c3_o7: 4=[t, f] 5=[f, t] 7=[f, f, f] 8=[t, f, f] 9=[f, t, f] 10=[t, t, f] 11=[f, f, t] 12=[t, f, t] 13=[f, t, t]
-- c3_o8: 4=[t, f] 5=[f, t] 7=[f, f, f] 8=[t, f, f] 9=[f, t, f] 10=[t, t, f] 11=[f, f, t] 12=[t, f, t] 13=[f, t, t] 14=[t, t, t]
-- c3_o9: 4=[t, f] 5=[f, t] 7=[f, f, f] 8=[t, f, f] 9=[f, t, f] 10=[t, t, f] 11=[f, f, t] 12=[t, f, t] 13=[f, t, t] 14=[t, t, t]
-- c3_o10: 10=[t, t, f] 11=[f, f, t] 12=[t, f, t] 13=[f, t, t] 14=[t, t, t]
-- c3_o11: 4=[t, f] 5=[f, t] 7=[f, f, f] 8=[t, f, f] 9=[f, t, f] 10=[t, t, f] 11=[f, f, t] 12=[t, f, t] 13=[f, t, t] 14=[t, t, t]
-- c3_l0: live slots [4, 5, 7, 8, 9, 10, 11, 12, 13, 14]
-- c3_o12: 4=[t, f] 5=[f, t] 7=[f, f, f] 8=[t, f, f] 9=[f, t, f] 10=[t, t, f] 11=[f, f, t] 12=[t, f, t] 13=[f, t, t]
-- c3_l1: live slots [4, 5, 7, 8, 9, 10, 11, 12, 13]
-- c3_o13: 10=[t, t, f] 11=[f, f, t] 12=[t, f, t]
def c3_o0 : CCode := (fun (f t : Bool) => (.trim [[], [f], [t]] (.ops [
  ⟨some [f, f], .box none (.s []), none⟩,
  ⟨some [t, f], .box none (.s [f]), none⟩,
  ⟨some [f, t], .box none (.s [t]), none⟩,
  ⟨some [t, t], .move (.c (.bool f)), none⟩]) : CCode)) false true
def c3_o1 : CCode := (fun (f t : Bool) => (.trim [[f, f], [t, f], [f, t]] (.draw 0 [
  ⟨some [f, f, f, f], .idxArr 3 1 (.s [f, f]) (.c (.int .i64 0)), none⟩,
  ⟨some [t, f, f, f], .load none (.s [f, f, f, f]), none⟩,
  ⟨some [f, t, f, f], .idxArr 3 1 (.s [f, f]) (.c (.int .i64 1)), none⟩,
  ⟨some [t, t, f, f], .load none (.s [f, t, f, f]), none⟩,
  ⟨some [f, f, t, f], .idxArr 3 1 (.s [f, f]) (.c (.int .i64 2)), none⟩,
  ⟨some [t, f, t, f], .load none (.s [f, f, t, f]), none⟩,
  ⟨some [f, f, f], .move (.s [t, f, f, f]), none⟩,
  ⟨some [t, f, f], .move (.s [t, t, f, f]), none⟩,
  ⟨some [f, t, f], .move (.s [t, f, t, f]), none⟩]
  [(1, 3), (1, 5), (3, 5)] [[], [0], [], [2], [], [4], [0, 1], [0, 1, 2, 3, 6], (r 8)]) : CCode)) false true
def c3_o2 : CCode := (fun (f t : Bool) => (.trim [[t, f], [f, t], [f, f, f], [t, f, f], [f, t, f]] (.ops [
  ⟨some [t, t, t, f], .move (.s [f, f, f]), none⟩,
  ⟨some [f, f, f, t], .move (.s [t, f, f]), none⟩,
  ⟨some [t, f, f, t], .move (.s [f, t, f]), none⟩,
  ⟨some [f, t, f, t], .load (some 2) (.s [t, f]), none⟩,
  ⟨some [t, t, f, t], .load (some 2) (.s [f, t]), none⟩,
  ⟨some [f, f, t, t], .call f (.c (.func 17 [])) [(.s [t, t, t, f]), (.s [f, f, f, t]), (.s [t, f, f, t]), (.s [f, t, f, t]), (.s [t, t, f, t])], none⟩,
  ⟨some [f, t, t, f], .move (.s [f, f, t, t]), none⟩,
  ⟨some [t, f, t, t], .extract 0 (.s [f, t, t, f]), none⟩,
  ⟨some [f, t, t, t], .extract 1 (.s [f, t, t, f]), none⟩,
  ⟨some [t, t, t, t], .extract 2 (.s [f, t, t, f]), none⟩,
  ⟨some [t, t, f], .move (.s [t, f, t, t]), none⟩,
  ⟨some [f, f, t], .move (.s [f, t, t, t]), none⟩,
  ⟨some [t, f, t], .move (.s [t, t, t, t]), none⟩]) : CCode)) false true
def c3_o3 : CCode := (fun (f t : Bool) => (.trim [[t, f], [f, t], [f, f, f], [t, f, f], [f, t, f], [t, t, f], [f, f, t], [t, f, t]] (.ops [
  ⟨some [f, f, f, f, f], .move (.s [f, f, f]), none⟩,
  ⟨some [t, f, f, f, f], .move (.s [t, f, f]), none⟩,
  ⟨some [f, t, f, f, f], .call f (.c (.func 18 [])) [(.s [f, f, f, f, f]), (.s [t, f, f, f, f])], none⟩,
  ⟨some [t, t, f, f, f], .un .not (.s [f, t, f, f, f]), none⟩,
  ⟨some [f, f, t, f, f], .move (.s [t, t, f, f, f]), none⟩,
  ⟨some [t, f, t, f, f], .move (.s [f, f, f]), some ([f, f, t, f, f], f)⟩,
  ⟨some [f, t, t, f, f], .move (.s [f, t, f]), some ([f, f, t, f, f], f)⟩,
  ⟨some [t, t, t, f, f], .call f (.c (.func 18 [])) [(.s [t, f, t, f, f]), (.s [f, t, t, f, f])], some ([f, f, t, f, f], f)⟩,
  ⟨some [f, f, f, t, f], .un .not (.s [t, t, t, f, f]), some ([f, f, t, f, f], f)⟩,
  ⟨some [t, f, f, t, f], .pick (.s [f, f, t, f, f]) (.c (.bool t)) (.s [f, f, f, t, f]), none⟩,
  ⟨some [f, t, f, t, f], .move (.s [t, f, f, t, f]), none⟩,
  ⟨some [t, t, f, t, f], .load (some 2) (.s [t, f]), some ([f, t, f, t, f], f)⟩,
  ⟨some [f, f, t, t, f], .call f (.c (.func 19 [])) [(.s [t, t, f, t, f])], some ([f, t, f, t, f], f)⟩,
  ⟨some [t, f, t, t, f], .un .not (.s [f, f, t, t, f]), some ([f, t, f, t, f], f)⟩,
  ⟨some [f, t, t, t, f], .pick (.s [f, t, f, t, f]) (.c (.bool t)) (.s [t, f, t, t, f]), none⟩,
  ⟨some [t, t, t, t, f], .move (.s [f, t, t, t, f]), none⟩,
  ⟨some [f, f, f, f, t], .load (some 2) (.s [f, t]), some ([t, t, t, t, f], f)⟩,
  ⟨some [t, f, f, f, t], .call f (.c (.func 19 [])) [(.s [f, f, f, f, t])], some ([t, t, t, t, f], f)⟩,
  ⟨some [f, t, f, f, t], .un .not (.s [t, f, f, f, t]), some ([t, t, t, t, f], f)⟩,
  ⟨some [t, t, f, f, t], .pick (.s [t, t, t, t, f]) (.c (.bool t)) (.s [f, t, f, f, t]), none⟩]) : CCode)) false true
def c3_o4 : CCode := (fun (f t : Bool) => (.trim [[t, t, f], [f, f, t], [t, f, t]] (.ops [
  ⟨some [f, f, t, f, t], .move (.s [t, t, f]), none⟩,
  ⟨some [t, f, t, f, t], .bin .eql (.s [f, f, t, f, t]) (.c (.int .i64 0)), none⟩,
  ⟨some [f, t, t, f, t], .move (.s [t, f, t, f, t]), none⟩,
  ⟨some [t, t, t, f, t], .move (.s [f, f, t]), some ([f, t, t, f, t], t)⟩,
  ⟨some [f, f, f, t, t], .bin .eql (.s [t, t, t, f, t]) (.c (.int .i64 0)), some ([f, t, t, f, t], t)⟩,
  ⟨some [t, f, f, t, t], .pick (.s [f, t, t, f, t]) (.s [f, f, f, t, t]) (.c (.bool f)), none⟩,
  ⟨some [f, t, f, t, t], .move (.s [t, f, f, t, t]), none⟩,
  ⟨some [t, t, f, t, t], .move (.s [t, f, t]), some ([f, t, f, t, t], t)⟩,
  ⟨some [f, f, t, t, t], .bin .eql (.s [t, t, f, t, t]) (.c (.int .i64 2)), some ([f, t, f, t, t], t)⟩,
  ⟨some [t, f, t, t, t], .pick (.s [f, t, f, t, t]) (.s [f, f, t, t, t]) (.c (.bool f)), none⟩,
  ⟨some [f, t, t, t, t], .move (.s [t, f, t, t, t]), none⟩,
  ⟨some [t, t, t, t, t], .call f (.c (.func 20 [])) [], some ([f, t, t, t, t], t)⟩,
  ⟨some [f, f, f, f, f, f], .pick (.s [f, t, t, t, t]) (.s [t, t, t, t, t]) (.c (.bool f)), none⟩,
  ⟨some [t, t], .move (.s [f, f, f, f, f, f]), none⟩]) : CCode)) false true
def c3_o5 : CCode := (fun (f t : Bool) => (.trim [[t, f], [f, t], [f, f, f], [t, f, f], [f, t, f], [t, t, f], [f, f, t], [t, f, t]] (.ops [
  ⟨some [f, t, t], .move (.c (.int .i64 1)), none⟩]) : CCode)) false true
def c3_o6 : CCode := (fun (f t : Bool) => (.trim [[t, f], [f, t], [f, f, f], [t, f, f], [f, t, f], [t, t, f], [f, f, t], [t, f, t], [f, t, t]] (.ops [
  ⟨some [t, f, f, f, f, f], .move (.s [f, t, t]), none⟩,
  ⟨some [f, t, f, f, f, f], .move (.s [f, f, f]), none⟩,
  ⟨some [t, t, f, f, f, f], .bin .leq (.s [t, f, f, f, f, f]) (.s [f, t, f, f, f, f]), none⟩]) : CCode)) false true
def c3_o7 : CCode := (fun (f t : Bool) => (.trim [[t, f], [f, t], [f, f, f], [t, f, f], [f, t, f], [t, t, f], [f, f, t], [t, f, t], [f, t, t]] (.ops [
  ⟨some [t, t, t], .move (.c (.int .i64 0)), none⟩]) : CCode)) false true
def c3_o8 : CCode := (fun (f t : Bool) => (.trim [[t, f], [f, t], [f, f, f], [t, f, f], [f, t, f], [t, t, f], [f, f, t], [t, f, t], [f, t, t], [t, t, t]] (.ops [
  ⟨some [f, t, t, f, f, f], .move (.s [t, t, t]), none⟩,
  ⟨some [t, t, t, f, f, f], .move (.s [f, t, t]), none⟩,
  ⟨some [f, f, f, t, f, f], .bin .lss (.s [f, t, t, f, f, f]) (.s [t, t, t, f, f, f]), none⟩]) : CCode)) false true
def c3_o9 : CCode := (fun (f t : Bool) => (.trim [[t, f], [f, t], [f, f, f], [t, f, f], [f, t, f], [t, t, f], [f, f, t], [t, f, t], [f, t, t], [t, t, t]] (.ops [
  ⟨some [t, t, f, t, f, f], .move (.s [f, f, f]), none⟩,
  ⟨some [f, f, t, t, f, f], .move (.s [t, f, f]), none⟩,
  ⟨some [t, f, t, t, f, f], .move (.s [f, t, f]), none⟩,
  ⟨some [f, t, t, t, f, f], .load (some 2) (.s [t, f]), none⟩,
  ⟨some [t, t, t, t, f, f], .load (some 2) (.s [f, t]), none⟩,
  ⟨some [f, f, f, f, t, f], .move (.s [f, t, t]), none⟩,
  ⟨some [t, f, f, f, t, f], .move (.s [t, t, t]), none⟩,
  ⟨some [f, t, f, f, t, f], .call f (.c (.func 21 [])) [(.s [t, t, f, t, f, f]), (.s [f, f, t, t, f, f]), (.s [t, f, t, t, f, f]), (.s [f, t, t, t, f, f]), (.s [t, t, t, t, f, f]), (.s [f, f, f, f, t, f]), (.s [t, f, f, f, t, f])], none⟩]) : CCode)) false true
def c3_o10 : CCode := (fun (f t : Bool) => (.trim [[t, t, f], [f, f, t], [t, f, t], [f, t, t], [t, t, t]] (.ops [
  ⟨some [t, t, f, f, t, f], .move (.s [t, t, f]), none⟩,
  ⟨some [f, f, t, f, t, f], .move (.s [f, t, t]), none⟩,
  ⟨some [t, f, t, f, t, f], .bin .eql (.s [t, t, f, f, t, f]) (.s [f, f, t, f, t, f]), none⟩,
  ⟨some [f, t, t, f, t, f], .move (.s [t, f, t, f, t, f]), none⟩,
  ⟨some [t, t, t, f, t, f], .move (.s [f, f, t]), some ([f, t, t, f, t, f], t)⟩,
  ⟨some [f, f, f, t, t, f], .move (.s [t, t, t]), some ([f, t, t, f, t, f], t)⟩,
  ⟨some [t, f, f, t, t, f], .bin .eql (.s [t, t, t, f, t, f]) (.s [f, f, f, t, t, f]), some ([f, t, t, f, t, f], t)⟩,
  ⟨some [f, t, f, t, t, f], .pick (.s [f, t, t, f, t, f]) (.s [t, f, f, t, t, f]) (.c (.bool f)), none⟩,
  ⟨some [t, t, f, t, t, f], .move (.s [f, t, f, t, t, f]), none⟩,
  ⟨some [f, f, t, t, t, f], .move (.s [t, f, t]), some ([t, t, f, t, t, f], t)⟩,
  ⟨some [t, f, t, t, t, f], .bin .eql (.s [f, f, t, t, t, f]) (.c (.int .i64 0)), some ([t, t, f, t, t, f], t)⟩,
  ⟨some [f, t, t, t, t, f], .pick (.s [t, t, f, t, t, f]) (.s [t, f, t, t, t, f]) (.c (.bool f)), none⟩,
  ⟨some [t, t, t, t, t, f], .move (.s [f, t, t, t, t, f]), none⟩,
  ⟨some [f, f, f, f, f, t], .call f (.c (.func 20 [])) [], some ([t, t, t, t, t, f], t)⟩,
  ⟨some [t, f, f, f, f, t], .pick (.s [t, t, t, t, t, f]) (.s [f, f, f, f, f, t]) (.c (.bool f)), none⟩,
  ⟨some [t, t], .move (.s [t, f, f, f, f, t]), none⟩]) : CCode)) false true
def c3_o11 : CCode := (fun (f t : Bool) => (.trim [[t, f], [f, t], [f, f, f], [t, f, f], [f, t, f], [t, t, f], [f, f, t], [t, f, t], [f, t, t], [t, t, t]] (.ops [
  ⟨some [t, f, f, t, f, f], .move (.s [t, t, t]), none⟩,
  ⟨some [f, t, f, t, f, f], .bin .add (.s [t, f, f, t, f, f]) (.c (.int .i64 1)), none⟩,
  ⟨some [t, t, t], .move (.s [f, t, f, t, f, f]), none⟩]) : CCode)) false true
def c3_b0 : CCode := (fun (f t : Bool) => ((.seq (.seq c3_o8
 (.cond (.s [f, f, f, t, f, f]) .skip (.exit 2)))
 (.seq (.block 3 (.seq c3_o9
 (.cond (.s [f, t, f, f, t, f]) (.seq c3_o10
 .ret) .skip)))
 c3_o11)) : CCode)) false true
def c3_l0 : CCode := (fun (f t : Bool) => (.loop [[t, f], [f, t], [f, f, f], [t, f, f], [f, t, f], [t, t, f], [f, f, t], [t, f, t], [f, t, t], [t, t, t]] c3_b0 : CCode)) false true
def c3_o12 : CCode := (fun (f t : Bool) => (.trim [[t, f], [f, t], [f, f, f], [t, f, f], [f, t, f], [t, t, f], [f, f, t], [t, f, t], [f, t, t]] (.ops [
  ⟨some [f, f, t, f, f, f], .move (.s [f, t, t]), none⟩,
  ⟨some [t, f, t, f, f, f], .bin .add (.s [f, f, t, f, f, f]) (.c (.int .i64 1)), none⟩,
  ⟨some [f, t, t], .move (.s [t, f, t, f, f, f]), none⟩]) : CCode)) false true
def c3_b1 : CCode := (fun (f t : Bool) => ((.seq (.seq c3_o6
 (.cond (.s [t, t, f, f, f, f]) .skip (.exit 0)))
 (.seq (.block 1 (.seq c3_o7
 (.block 2 c3_l0)))
 c3_o12)) : CCode)) false true
def c3_l1 : CCode := (fun (f t : Bool) => (.loop [[t, f], [f, t], [f, f, f], [t, f, f], [f, t, f], [t, t, f], [f, f, t], [t, f, t], [f, t, t]] c3_b1 : CCode)) false true
def c3_o13 : CCode := (fun (f t : Bool) => (.trim [[t, t, f], [f, f, t], [t, f, t]] (.ops [
  ⟨some [f, t, f, f, f, t], .move (.s [t, t, f]), none⟩,
  ⟨some [t, t, f, f, f, t], .bin .eql (.s [f, t, f, f, f, t]) (.c (.int .i64 0)), none⟩,
  ⟨some [f, f, t, f, f, t], .move (.s [t, t, f, f, f, t]), none⟩,
  ⟨some [t, f, t, f, f, t], .move (.s [f, f, t]), some ([f, f, t, f, f, t], t)⟩,
  ⟨some [f, t, t, f, f, t], .bin .eql (.s [t, f, t, f, f, t]) (.c (.int .i64 0)), some ([f, f, t, f, f, t], t)⟩,
  ⟨some [t, t, t, f, f, t], .pick (.s [f, f, t, f, f, t]) (.s [f, t, t, f, f, t]) (.c (.bool f)), none⟩,
  ⟨some [f, f, f, t, f, t], .move (.s [t, t, t, f, f, t]), none⟩,
  ⟨some [t, f, f, t, f, t], .move (.s [t, f, t]), some ([f, f, f, t, f, t], t)⟩,
  ⟨some [f, t, f, t, f, t], .bin .eql (.s [t, f, f, t, f, t]) (.c (.int .i64 6)), some ([f, f, f, t, f, t], t)⟩,
  ⟨some [t, t, f, t, f, t], .pick (.s [f, f, f, t, f, t]) (.s [f, t, f, t, f, t]) (.c (.bool f)), none⟩,
  ⟨some [f, f, t, t, f, t], .move (.s [t, t, f, t, f, t]), none⟩,
  ⟨some [t, f, t, t, f, t], .call f (.c (.func 20 [])) [], some ([f, f, t, t, f, t], t)⟩,
  ⟨some [f, t, t, t, f, t], .pick (.s [f, f, t, t, f, t]) (.s [t, f, t, t, f, t]) (.c (.bool f)), none⟩,
  ⟨some [t, t], .move (.s [f, t, t, t, f, t]), none⟩]) : CCode)) false true
def c3 : CFunc := (fun (f t : Bool) => ({ params := [[], [f], [t]], results := [.slot [t, t]], shared := f, body := (.seq c3_o0
 (.seq c3_o1
 (.seq c3_o2
 (.seq (.seq c3_o3
 (.cond (.s [t, t, f, f, t]) (.seq c3_o4
 .ret) .skip))
 (.seq (.seq c3_o5
 (.block 0 c3_l1))
 (.seq c3_o13
 .ret)))))) } : CFunc)) false true
-- numnah/numnahlaw05.SampleSure
-- c4_l0: live slots [3, 4, 5, 6]
def c4_b0 : CCode := (fun (f t : Bool) => ((.seq (.seq (.ops [
  ⟨some [f, t, f, f], .move (.s [t, t]), none⟩,
  ⟨some [t, t, f, f], .move (.s [f, f]), none⟩,
  ⟨some [f, f, t, f], .bin .leq (.s [f, t, f, f]) (.s [t, t, f, f]), none⟩])
 (.cond (.s [f, f, t, f]) .skip (.exit 0)))
 (.seq (.block 1 (.seq (.ops [
  ⟨some [f, f, f, t], .move (.s [f, f]), none⟩,
  ⟨some [t, f, f, t], .move (.s [t, t]), none⟩,
  ⟨some [f, t, f, t], .move (.s [t, f]), none⟩,
  ⟨some [t, t, f, t], .move (.s [f, t]), none⟩,
  ⟨some [f, f, t, t], .call f (.c (.func 23 [])) [(.s [f, f, f, t]), (.s [t, f, f, t]), (.s [f, t, f, t]), (.s [t, t, f, t])], none⟩,
  ⟨some [t, t, t, f], .move (.s [f, f, t, t]), none⟩,
  ⟨some [t, f, t, t], .extract 0 (.s [t, t, t, f]), none⟩,
  ⟨some [f, t, t, t], .extract 1 (.s [t, t, t, f]), none⟩,
  ⟨some [f, f, f], .alloc none [.int .i64 0, .int .i64 0], none⟩,
  ⟨none, .store 2 (.s [f, f, f]) (.s [t, f, t, t]), none⟩,
  ⟨some [t, f, f], .move (.s [f, t, t, t]), none⟩])
 (.seq (.draw 0 [
  ⟨some [t, t, t, t], .load (some 2) (.s [f, f, f]), none⟩,
  ⟨some [f, f, f, f, f], .build [.int .i64 0, .int .i64 0] [(0, 1, (.c (.int .i64 1))), (1, 1, (.c (.int .i64 1)))], none⟩,
  ⟨some [t, f, f, f, f], .eqa [.i .i64, .i .i64] f (.s [t, t, t, t]) (.s [f, f, f, f, f]), none⟩,
  ⟨some [f, t, f, f, f], .load (some 2) (.s [f, f, f]), none⟩,
  ⟨some [t, t, f, f, f], .build [.int .i64 0, .int .i64 0] [(0, 1, (.c (.int .i64 0))), (1, 1, (.c (.int .i64 1)))], none⟩,
  ⟨some [f, f, t, f, f], .eqa [.i .i64, .i .i64] f (.s [f, t, f, f, f]) (.s [t, t, f, f, f]), none⟩,
  ⟨some [f, t, f], .move (.s [t, f, f, f, f]), none⟩,
  ⟨some [t, t, f], .move (.s [f, f, t, f, f]), none⟩]
  [(0, 3)] [[], [], [0, 1], [], [], [3, 4], [0, 1, 2], (r 7)])
 (.seq (.ops [
  ⟨some [t, f, t, f, f], .move (.s [t, f, f]), none⟩,
  ⟨some [f, t, t, f, f], .bin .neq (.s [t, f, t, f, f]) (.c (.int .i64 0)), none⟩,
  ⟨some [t, t, t, f, f], .move (.s [f, t, t, f, f]), none⟩,
  ⟨some [f, f, f, t, f], .move (.s [f, t, f]), some ([t, t, t, f, f], f)⟩,
  ⟨some [t, f, f, t, f], .move (.s [t, t]), some ([t, t, t, f, f], f)⟩,
  ⟨some [f, t, f, t, f], .move (.s [f, t]), some ([t, t, t, f, f], f)⟩,
  ⟨some [t, t, f, t, f], .bin .leq (.s [t, f, f, t, f]) (.s [f, t, f, t, f]), some ([t, t, t, f, f], f)⟩,
  ⟨some [f, f, t, t, f], .eqv 0 t (.s [f, f, f, t, f]) (.s [t, t, f, t, f]), some ([t, t, t, f, f], f)⟩,
  ⟨some [t, f, t, t, f], .pick (.s [t, t, t, f, f]) (.c (.bool t)) (.s [f, f, t, t, f]), none⟩,
  ⟨some [f, t, t, t, f], .move (.s [t, f, t, t, f]), none⟩,
  ⟨some [t, t, t, t, f], .move (.s [t, t, f]), some ([f, t, t, t, f], f)⟩,
  ⟨some [f, f, f, f, t], .move (.s [t, t]), some ([f, t, t, t, f], f)⟩,
  ⟨some [t, f, f, f, t], .move (.s [f, f]), some ([f, t, t, t, f], f)⟩,
  ⟨some [f, t, f, f, t], .move (.s [t, f]), some ([f, t, t, t, f], f)⟩,
  ⟨some [t, t, f, f, t], .bin .sub (.s [t, f, f, f, t]) (.s [f, t, f, f, t]), some ([f, t, t, t, f], f)⟩,
  ⟨some [f, f, t, f, t], .move (.s [f, t]), some ([f, t, t, t, f], f)⟩,
  ⟨some [t, f, t, f, t], .bin .add (.s [t, t, f, f, t]) (.s [f, f, t, f, t]), some ([f, t, t, t, f], f)⟩,
  ⟨some [f, t, t, f, t], .bin .gtr (.s [f, f, f, f, t]) (.s [t, f, t, f, t]), some ([f, t, t, t, f], f)⟩,
  ⟨some [t, t, t, f, t], .eqv 0 t (.s [t, t, t, t, f]) (.s [f, t, t, f, t]), some ([f, t, t, t, f], f)⟩,
  ⟨some [f, f, f, t, t], .pick (.s [f, t, t, t, f]) (.c (.bool t)) (.s [t, t, t, f, t]), none⟩])
 (.cond (.s [f, f, f, t, t]) (.seq (.ops [
  ⟨some [t], .move (.c (.bool f)), none⟩])
 .ret) .skip)))))
 (.ops [
  ⟨some [t, f, t, f], .move (.s [t, t]), none⟩,
  ⟨some [f, t, t, f], .bin .add (.s [t, f, t, f]) (.c (.int .i64 1)), none⟩,
  ⟨some [t, t], .move (.s [f, t, t, f]), none⟩]))) : CCode)) false true
def c4_l0 : CCode := (fun (f t : Bool) => (.loop [[f, f], [t, f], [f, t], [t, t]] c4_b0 : CCode)) false true
def c4 : CFunc := (fun (f t : Bool) => ({ params := [[]], results := [.slot [t]], shared := f, body := (.seq (.ops [
  ⟨some [f], .box none (.s []), none⟩,
  ⟨some [t], .move (.c (.bool f)), none⟩])
 (.seq (.ops [
  ⟨some [t, f, t], .load (some 3) (.s [f]), none⟩,
  ⟨some [f, t, t], .call f (.c (.func 22 [])) [(.s [t, f, t])], none⟩,
  ⟨some [f, f, t], .move (.s [f, t, t]), none⟩,
  ⟨some [t, t, t], .extract 0 (.s [f, f, t]), none⟩,
  ⟨some [f, f, f, f], .extract 1 (.s [f, f, t]), none⟩,
  ⟨some [t, f, f, f], .extract 2 (.s [f, f, t]), none⟩,
  ⟨some [f, f], .move (.s [t, t, t]), none⟩,
  ⟨some [t, f], .move (.s [f, f, f, f]), none⟩,
  ⟨some [f, t], .move (.s [t, f, f, f]), none⟩])
 (.seq (.seq (.ops [
  ⟨some [t, t], .move (.c (.int .i64 0)), none⟩])
 (.block 0 c4_l0))
 (.seq (.ops [
  ⟨some [t, f, f, t, t], .call f (.c (.func 20 [])) [], none⟩,
  ⟨some [t], .move (.s [t, f, f, t, t]), none⟩])
 .ret)))) } : CFunc)) false true
-- numnah/numnahlaw05.SampleFirst
-- c5_o0: 0=[] 1=[f] 2=[t]
-- c5_o1: 3=[f, f] 4=[t, f] 5=[f, t]
-- c5_o2: 3=[f, f] 4=[t, f] 5=[f, t] 7=[f, f, f]
-- c5_o3: 4=[t, f] 5=[f, t] 7=[f, f, f] 8=[t, f, f] 9=[f, t, f]
-- c5_o4: 4=[t, f] 5=[f, t] 7=[f, f, f] 8=[t, f, f] 9=[f, t, f] 10=[t, t, f] 11=[f, f, t]
-- c5_o5: 4=[t, f] 7=[f, f, f] 8=[t, f, f] 9=[f, t, f] 12=[t, f, t] 13=[f, t, t]
-- c5_o6: 4=[t, f] 7=[f, f, f] 8=[t, f, f] 9=[f, t, f] 12=[t, f, t] 13=[f, t, t] 14=[t, t, t] 15=[f, f, f, f] 16=[t, f, f, f]
-- c5_o7: 4=[t, f] 7=[f, f, f] 8=[t, f, f] 9=[f, t, f] 12=[t, f, t] 13=[f, t, t] 14=[t, t, t] 15=[f, f, f, f] 16=[t, f, f, f] 17=[f, t, f, f]
-- c5_o8: 7=[f, f, f] 8=[t, f, f] 9=[f, t, f] 12=[t, f, t] 13=[f, t, t] 14=[t, t, t] 15=[f, f, f, f] 16=[t, f, f, f] 17=[f, t, f, f] 18=[t, t, f, f]
-- c5_o9: 7=[f, f, f] 8=[t, f, f] 9=[f, t, f] 12=[t, f, t] 13=[f, t, t] 14=[t, t, t] 15=[f, f, f, f] 16=[t, f, f, f] 17=[f, t, f, f] 18=[t, t, f, f] 19=[f, f, t, f] 20=[t, f, t, f]
-- c5_o10: 7=[f, f, f] 8=[t, f, f] 9=[f, t, f] 12=[t, f, t] 13=[f, t, t] 14=[t, t, t] 15=[f, f, f, f] 16=[t, f, f, f] 17=[f, t, f, f] 18=[t, t, f, f] 19=[f, f, t, f] 20=[t, f, t, f] 21=[f, t, t, f] 22=[t, t, t, f]
-- c5_o11: 
-- c5_o12: 7=[f, f, f] 8=[t, f, f] 9=[f, t, f] 12=[t, f, t] 13=[f, t, t] 14=[t, t, t] 15=[f, f, f, f] 16=[t, f, f, f] 17=[f, t, f, f] 18=[t, t, f, f] 19=[f, f, t, f] 21=[f, t, t, f]
-- c5_o13: 7=[f, f, f] 8=[t, f, f] 9=[f, t, f] 12=[t, f, t] 13=[f, t, t] 14=[t, t, t] 15=[f, f, f, f] 16=[t, f, f, f] 17=[f, t, f, f] 18=[t, t, f, f] 23=[f, f, f, t]
-- c5_o14: 16=[t, f, f, f] 23=[f, f, f, t]
-- c5_o15: 7=[f, f, f] 8=[t, f, f] 9=[f, t, f] 12=[t, f, t] 13=[f, t, t] 14=[t, t, t] 15=[f, f, f, f] 17=[f, t, f, f] 18=[t, t, f, f] 23=[f, f, f, t]
-- c5_o16: 7=[f, f, f] 9=[f, t, f] 12=[t, f, t] 13=[f, t, t] 14=[t, t, t] 15=[f, f, f, f] 17=[f, t, f, f] 18=[t, t, f, f] 23=[f, f, f, t] 24=[t, f, f, t] 25=[f, t, f, t]
-- c5_o17: 12=[t, f, t] 13=[f, t, t] 14=[t, t, t] 15=[f, f, f, f] 17=[f, t, f, f] 18=[t, t, f, f] 23=[f, f, f, t] 24=[t, f, f, t] 25=[f, t, f, t] 26=[t, t, f, t] 27=[f, f, t, t]
-- c5_o18: 
-- c5_o19: 14=[t, t, t] 15=[f, f, f, f] 17=[f, t, f, f] 18=[t, t, f, f] 23=[f, f, f, t]
def c5_o0 : CCode := (fun (f t : Bool) => (.trim [[], [f], [t]] (.ops [
  ⟨some [f, f], .box none (.s []), none⟩,
  ⟨some [t, f], .box none (.s [f]), none⟩,
  ⟨some [f, t], .box none (.s [t]), none⟩,
  ⟨some [t, t], .move (.c (.bool f)), none⟩]) : CCode)) false true
def c5_o1 : CCode := (fun (f t : Bool) => (.trim [[f, f], [t, f], [f, t]] (.ops [
  ⟨some [t, f, t, t], .idxArr 3 1 (.s [f, f]) (.c (.int .i64 0)), none⟩,
  ⟨some [f, t, t, t], .load none (.s [t, f, t, t]), none⟩,
  ⟨some [t, t, t, t], .call f (.c (.func 24 [])) [(.s [f, t, t, t]), (.c (.int .i64 36))], none⟩,
  ⟨some [f, f, f, f, f], .bin .add (.c (.int .i64 1)) (.s [t, t, t, t]), none⟩,
  ⟨some [f, f, f], .move (.s [f, f, f, f, f]), none⟩]) : CCode)) false true
def c5_o2 : CCode := (fun (f t : Bool) => (.trim [[f, f], [t, f], [f, t], [f, f, f]] (.draw 0 [
  ⟨some [t, f, f, f, f], .idxArr 3 1 (.s [f, f]) (.c (.int .i64 1)), none⟩,
  ⟨some [f, t, f, f, f], .load none (.s [t, f, f, f, f]), none⟩,
  ⟨some [t, t, f, f, f], .move (.s [f, f, f]), none⟩,
  ⟨some [f, f, t, f, f], .bin .add (.s [t, t, f, f, f]) (.c (.int .i64 1)), none⟩,
  ⟨some [t, f, t, f, f], .call f (.c (.func 24 [])) [(.s [f, t, f, f, f]), (.s [f, f, t, f, f])], none⟩,
  ⟨some [f, t, t, f, f], .idxArr 3 1 (.s [f, f]) (.c (.int .i64 2)), none⟩,
  ⟨some [t, t, t, f, f], .load none (.s [f, t, t, f, f]), none⟩,
  ⟨some [f, f, f, t, f], .move (.s [f, f, f]), none⟩,
  ⟨some [t, f, f, t, f], .bin .add (.s [f, f, f, t, f]) (.c (.int .i64 1)), none⟩,
  ⟨some [f, t, f, t, f], .call f (.c (.func 24 [])) [(.s [t, t, t, f, f]), (.s [t, f, f, t, f])], none⟩,
  ⟨some [t, f, f], .move (.s [t, f, t, f, f]), none⟩,
  ⟨some [f, t, f], .move (.s [f, t, f, t, f]), none⟩]
  [(1, 6), (4, 6)] [[], [0], [], [2], [0, 1, 2, 3], [], [5], [], [7], (r 9), (r 10), (r 11)]) : CCode)) false true
def c5_o3 : CCode := (fun (f t : Bool) => (.trim [[t, f], [f, t], [f, f, f], [t, f, f], [f, t, f]] (.draw 0 [
  ⟨some [t, t, f, t, f], .idxArr 4 1 (.s [f, t]) (.c (.int .i64 0)), none⟩,
  ⟨some [f, f, t, t, f], .load none (.s [t, t, f, t, f]), none⟩,
  ⟨some [t, f, t, t, f], .call f (.c (.func 24 [])) [(.s [f, f, t, t, f]), (.c (.int .i64 1000))], none⟩,
  ⟨some [f, t, t, t, f], .bin .add (.c (.int .i64 1)) (.s [t, f, t, t, f]), none⟩,
  ⟨some [t, t, t, t, f], .idxArr 4 1 (.s [f, t]) (.c (.int .i64 2)), none⟩,
  ⟨some [f, f, f, f, t], .load none (.s [t, t, t, t, f]), none⟩,
  ⟨some [t, f, f, f, t], .call f (.c (.func 24 [])) [(.s [f, f, f, f, t]), (.c (.int .i64 1000))], none⟩,
  ⟨some [f, t, f, f, t], .bin .add (.c (.int .i64 1)) (.s [t, f, f, f, t]), none⟩,
  ⟨some [t, t, f], .move (.s [f, t, t, t, f]), none⟩,
  ⟨some [f, f, t], .move (.s [f, t, f, f, t]), none⟩]
  [(1, 5), (2, 5)] [[], [0], [0, 1], [0, 1, 2], [], [4], [0, 1, 2, 4, 5], [0, 1, 2, 4, 5, 6], (r 7), (r 9)]) : CCode)) false true
def c5_o4 : CCode := (fun (f t : Bool) => (.trim [[t, f], [f, t], [f, f, f], [t, f, f], [f, t, f], [t, t, f], [f, f, t]] (.draw 2 [
  ⟨some [t, t, f, f, t], .idxArr 4 1 (.s [f, t]) (.c (.int .i64 1)), none⟩,
  ⟨some [f, f, t, f, t], .load none (.s [t, t, f, f, t]), none⟩,
  ⟨some [t, f, t, f, t], .move (.s [t, t, f]), none⟩,
  ⟨some [f, t, t, f, t], .bin .add (.s [t, f, t, f, t]) (.c (.int .i64 1)), none⟩,
  ⟨some [t, t, t, f, t], .call t (.c (.func 24 [])) [(.s [f, f, t, f, t]), (.s [f, t, t, f, t])], none⟩,
  ⟨some [f, f, f, t, t], .move (.s [t, t, f]), none⟩,
  ⟨some [t, f, f, t, t], .call t (.c (.func 25 [])) [(.s [t, t, t, f, t]), (.s [f, f, f, t, t])], none⟩,
  ⟨some [f, t, f, t, t], .idxArr 4 1 (.s [f, t]) (.c (.int .i64 3)), none⟩,
  ⟨some [t, t, f, t, t], .load none (.s [f, t, f, t, t]), none⟩,
  ⟨some [f, f, t, t, t], .move (.s [f, f, t]), none⟩,
  ⟨some [t, f, t, t, t], .bin .add (.s [f, f, t, t, t]) (.c (.int .i64 1)), none⟩,
  ⟨some [f, t, t, t, t], .call t (.c (.func 24 [])) [(.s [t, t, f, t, t]), (.s [t, f, t, t, t])], none⟩,
  ⟨some [t, t, t, t, t], .move (.s [f, f, t]), none⟩,
  ⟨some [f, f, f, f, f, f], .call t (.c (.func 25 [])) [(.s [f, t, t, t, t]), (.s [t, t, t, t, t])], none⟩,
  ⟨some [t, f, t], .alloc (some 0) [.int .i64 0, .int .i64 0], none⟩,
  ⟨some [f, t, t], .alloc (some 1) [.int .i64 0, .int .i64 0], none⟩,
  ⟨none, .store 2 (.s [t, f, t]) (.s [t, f, f, t, t]), none⟩,
  ⟨none, .store 2 (.s [f, t, t]) (.s [f, f, f, f, f, f]), none⟩]
  [(1, 8), (4, 8), (6, 8), (1, 14), (4, 14), (6, 14), (8, 14), (11, 14), (13, 14), (1, 15), (4, 15), (6, 15), (8, 15), (11, 15), (13, 15), (14, 15)] [[], [0], [], [2], [0, 1, 2, 3], [], (r 6), [], [7], [], [9], (r 11), [], (r 13), [], [], (r 16), (r 17)]) : CCode)) false true
def c5_o5 : CCode := (fun (f t : Bool) => (.trim [[t, f], [f, f, f], [t, f, f], [f, t, f], [t, f, t], [f, t, t]] (.ops [
  ⟨some [f, t, f, f, f, f], .move (.s [f, f, f]), none⟩,
  ⟨some [t, t, f, f, f, f], .move (.s [t, f, f]), none⟩,
  ⟨some [f, f, t, f, f, f], .move (.s [f, t, f]), none⟩,
  ⟨some [t, f, t, f, f, f], .load (some 2) (.s [t, f, t]), none⟩,
  ⟨some [f, t, t, f, f, f], .load (some 2) (.s [f, t, t]), none⟩,
  ⟨some [t, t, t, f, f, f], .call f (.c (.func 17 [])) [(.s [f, t, f, f, f, f]), (.s [t, t, f, f, f, f]), (.s [f, f, t, f, f, f]), (.s [t, f, t, f, f, f]), (.s [f, t, t, f, f, f])], none⟩,
  ⟨some [t, f, f, f, f, f], .move (.s [t, t, t, f, f, f]), none⟩,
  ⟨some [f, f, f, t, f, f], .extract 0 (.s [t, f, f, f, f, f]), none⟩,
  ⟨some [t, f, f, t, f, f], .extract 1 (.s [t, f, f, f, f, f]), none⟩,
  ⟨some [f, t, f, t, f, f], .extract 2 (.s [t, f, f, f, f, f]), none⟩,
  ⟨some [t, t, t], .move (.s [f, f, f, t, f, f]), none⟩,
  ⟨some [f, f, f, f], .move (.s [t, f, f, t, f, f]), none⟩,
  ⟨some [t, f, f, f], .move (.s [f, t, f, t, f, f]), none⟩]) : CCode)) false true
def c5_o6 : CCode := (fun (f t : Bool) => (.trim [[t, f], [f, f, f], [t, f, f], [f, t, f], [t, f, t], [f, t, t], [t, t, t], [f, f, f, f], [t, f, f, f]] (.ops [
  ⟨some [t, t, f, t, f, f], .idxArr 2 1 (.s [t, f]) (.c (.int .i64 0)), none⟩,
  ⟨some [f, f, t, t, f, f], .load none (.s [t, t, f, t, f, f]), none⟩,
  ⟨some [t, f, t, t, f, f], .move (.s [f, f, f]), none⟩,
  ⟨some [f, t, t, t, f, f], .call f (.c (.func 24 [])) [(.s [f, f, t, t, f, f]), (.s [t, f, t, t, f, f])], none⟩,
  ⟨some [t, t, t, t, f, f], .bin .add (.c (.int .i64 1)) (.s [f, t, t, t, f, f]), none⟩,
  ⟨some [f, t, f, f], .move (.s [t, t, t, t, f, f]), none⟩]) : CCode)) false true
def c5_o7 : CCode := (fun (f t : Bool) => (.trim [[t, f], [f, f, f], [t, f, f], [f, t, f], [t, f, t], [f, t, t], [t, t, t], [f, f, f, f], [t, f, f, f], [f, t, f, f]] (.ops [
  ⟨some [f, f, f, f, t, f], .idxArr 2 1 (.s [t, f]) (.c (.int .i64 1)), none⟩,
  ⟨some [t, f, f, f, t, f], .load none (.s [f, f, f, f, t, f]), none⟩,
  ⟨some [f, t, f, f, t, f], .move (.s [f, t, f, f]), none⟩,
  ⟨some [t, t, f, f, t, f], .call f (.c (.func 24 [])) [(.s [t, f, f, f, t, f]), (.s [f, t, f, f, t, f])], none⟩,
  ⟨some [t, t, f, f], .move (.s [t, t, f, f, t, f]), none⟩]) : CCode)) false true
def c5_o8 : CCode := (fun (f t : Bool) => (.trim [[f, f, f], [t, f, f], [f, t, f], [t, f, t], [f, t, t], [t, t, t], [f, f, f, f], [t, f, f, f], [f, t, f, f], [t, t, f, f]] (.ops [
  ⟨some [t, f, t, f, t, f], .move (.s [f, f, f]), none⟩,
  ⟨some [f, t, t, f, t, f], .move (.s [t, f, f]), none⟩,
  ⟨some [t, t, t, f, t, f], .move (.s [f, t, f, f]), none⟩,
  ⟨some [f, f, f, t, t, f], .move (.s [t, t, f, f]), none⟩,
  ⟨some [t, f, f, t, t, f], .call f (.c (.func 23 [])) [(.s [t, f, t, f, t, f]), (.s [f, t, t, f, t, f]), (.s [t, t, t, f, t, f]), (.s [f, f, f, t, t, f])], none⟩,
  ⟨some [f, f, t, f, t, f], .move (.s [t, f, f, t, t, f]), none⟩,
  ⟨some [f, t, f, t, t, f], .extract 0 (.s [f, f, t, f, t, f]), none⟩,
  ⟨some [t, t, f, t, t, f], .extract 1 (.s [f, f, t, f, t, f]), none⟩,
  ⟨some [f, f, t, f], .alloc none [.int .i64 0, .int .i64 0], none⟩,
  ⟨none, .store 2 (.s [f, f, t, f]) (.s [f, t, f, t, t, f]), none⟩,
  ⟨some [t, f, t, f], .move (.s [t, t, f, t, t, f]), none⟩]) : CCode)) false true
def c5_o9 : CCode := (fun (f t : Bool) => (.trim [[f, f, f], [t, f, f], [f, t, f], [t, f, t], [f, t, t], [t, t, t], [f, f, f, f], [t, f, f, f], [f, t, f, f], [t, t, f, f], [f, f, t, f], [t, f, t, f]] (.ops [
  ⟨some [t, f, t, t, t, f], .move (.s [f, f, f]), none⟩,
  ⟨some [f, t, t, t, t, f], .move (.s [f, t, f]), none⟩,
  ⟨some [t, t, t, t, t, f], .move (.s [f, t, f, f]), none⟩,
  ⟨some [f, f, f, f, f, t], .move (.s [t, t, f, f]), none⟩,
  ⟨some [t, f, f, f, f, t], .call f (.c (.func 23 [])) [(.s [t, f, t, t, t, f]), (.s [f, t, t, t, t, f]), (.s [t, t, t, t, t, f]), (.s [f, f, f, f, f, t])], none⟩,
  ⟨some [f, f, t, t, t, f], .move (.s [t, f, f, f, f, t]), none⟩,
  ⟨some [f, t, f, f, f, t], .extract 0 (.s [f, f, t, t, t, f]), none⟩,
  ⟨some [t, t, f, f, f, t], .extract 1 (.s [f, f, t, t, t, f]), none⟩,
  ⟨some [f, t, t, f], .alloc none [.int .i64 0, .int .i64 0], none⟩,
  ⟨none, .store 2 (.s [f, t, t, f]) (.s [f, t, f, f, f, t]), none⟩,
  ⟨some [t, t, t, f], .move (.s [t, t, f, f, f, t]), none⟩]) : CCode)) false true
def c5_o10 : CCode := (fun (f t : Bool) => (.trim [[f, f, f], [t, f, f], [f, t, f], [t, f, t], [f, t, t], [t, t, t], [f, f, f, f], [t, f, f, f], [f, t, f, f], [t, t, f, f], [f, f, t, f], [t, f, t, f], [f, t, t, f], [t, t, t, f]] (.ops [
  ⟨some [f, f, t, f, f, t], .move (.s [t, f, t, f]), none⟩,
  ⟨some [t, f, t, f, f, t], .bin .neq (.s [f, f, t, f, f, t]) (.c (.int .i64 0)), none⟩,
  ⟨some [f, t, t, f, f, t], .move (.s [t, f, t, f, f, t]), none⟩,
  ⟨some [t, t, t, f, f, t], .move (.s [t, t, t, f]), some ([f, t, t, f, f, t], f)⟩,
  ⟨some [f, f, f, t, f, t], .bin .neq (.s [t, t, t, f, f, t]) (.c (.int .i64 0)), some ([f, t, t, f, f, t], f)⟩,
  ⟨some [t, f, f, t, f, t], .pick (.s [f, t, t, f, f, t]) (.c (.bool t)) (.s [f, f, f, t, f, t]), none⟩,
  ⟨some [f, t, f, t, f, t], .move (.s [t, f, f, t, f, t]), none⟩,
  ⟨some [t, t, f, t, f, t], .load (some 2) (.s [f, f, t, f]), some ([f, t, f, t, f, t], f)⟩,
  ⟨some [f, f, t, t, f, t], .call f (.c (.func 26 [])) [(.s [t, t, f, t, f, t])], some ([f, t, f, t, f, t], f)⟩,
  ⟨some [t, f, t, t, f, t], .un .not (.s [f, f, t, t, f, t]), some ([f, t, f, t, f, t], f)⟩,
  ⟨some [f, t, t, t, f, t], .pick (.s [f, t, f, t, f, t]) (.c (.bool t)) (.s [t, f, t, t, f, t]), none⟩,
  ⟨some [t, t, t, t, f, t], .move (.s [f, t, t, t, f, t]), none⟩,
  ⟨some [f, f, f, f, t, t], .load (some 2) (.s [f, t, t, f]), some ([t, t, t, t, f, t], f)⟩,
  ⟨some [t, f, f, f, t, t], .call f (.c (.func 26 [])) [(.s [f, f, f, f, t, t])], some ([t, t, t, t, f, t], f)⟩,
  ⟨some [f, t, f, f, t, t], .un .not (.s [t, f, f, f, t, t]), some ([t, t, t, t, f, t], f)⟩,
  ⟨some [t, t, f, f, t, t], .pick (.s [t, t, t, t, f, t]) (.c (.bool t)) (.s [f, t, f, f, t, t]), none⟩]) : CCode)) false true
def c5_o11 : CCode := (fun (f t : Bool) => (.trim [] (.ops [
  ⟨some [t, t], .move (.c (.bool f)), none⟩]) : CCode)) false true
def c5_o12 : CCode := (fun (f t : Bool) => (.trim [[f, f, f], [t, f, f], [f, t, f], [t, f, t], [f, t, t], [t, t, t], [f, f, f, f], [t, f, f, f], [f, t, f, f], [t, t, f, f], [f, f, t, f], [f, t, t, f]] (.ops [
  ⟨some [f, f, t, f, t, t], .load (some 2) (.s [f, f, t, f]), none⟩,
  ⟨some [t, f, t, f, t, t], .load (some 2) (.s [t, f, t]), none⟩,
  ⟨some [f, t, t, f, t, t], .call f (.c (.func 27 [])) [(.s [f, f, t, f, t, t]), (.s [t, f, t, f, t, t])], none⟩,
  ⟨some [t, t, t, f, t, t], .un .not (.s [f, t, t, f, t, t]), none⟩,
  ⟨some [f, f, f, t, t, t], .move (.s [t, t, t, f, t, t]), none⟩,
  ⟨some [t, f, f, t, t, t], .load (some 2) (.s [f, t, t]), some ([f, f, f, t, t, t], t)⟩,
  ⟨some [f, t, f, t, t, t], .load (some 2) (.s [f, t, t, f]), some ([f, f, f, t, t, t], t)⟩,
  ⟨some [t, t, f, t, t, t], .call f (.c (.func 27 [])) [(.s [t, f, f, t, t, t]), (.s [f, t, f, t, t, t])], some ([f, f, f, t, t, t], t)⟩,
  ⟨some [f, f, t, t, t, t], .un .not (.s [t, t, f, t, t, t]), some ([f, f, f, t, t, t], t)⟩,
  ⟨some [t, f, t, t, t, t], .pick (.s [f, f, f, t, t, t]) (.s [f, f, t, t, t, t]) (.c (.bool f)), none⟩,
  ⟨some [f, f, f, t], .move (.s [t, f, t, t, t, t]), none⟩]) : CCode)) false true
def c5_o13 : CCode := (fun (f t : Bool) => (.trim [[f, f, f], [t, f, f], [f, t, f], [t, f, t], [f, t, t], [t, t, t], [f, f, f, f], [t, f, f, f], [f, t, f, f], [t, t, f, f], [f, f, f, t]] (.ops [
  ⟨some [f, t, t, t, t, t], .move (.s [t, f, f, f]), none⟩,
  ⟨some [t, t, t, t, t, t], .bin .neq (.s [f, t, t, t, t, t]) (.c (.int .i64 0)), none⟩]) : CCode)) false true
def c5_o14 : CCode := (fun (f t : Bool) => (.trim [[t, f, f, f], [f, f, f, t]] (.ops [
  ⟨some [f, f, f, f, f, f, f], .move (.s [t, f, f, f]), none⟩,
  ⟨some [t, f, f, f, f, f, f], .bin .eql (.s [f, f, f, f, f, f, f]) (.c (.int .i64 6)), none⟩,
  ⟨some [f, t, f, f, f, f, f], .move (.s [t, f, f, f, f, f, f]), none⟩,
  ⟨some [t, t, f, f, f, f, f], .move (.s [f, f, f, t]), some ([f, t, f, f, f, f, f], t)⟩,
  ⟨some [f, f, t, f, f, f, f], .un .not (.s [t, t, f, f, f, f, f]), some ([f, t, f, f, f, f, f], t)⟩,
  ⟨some [t, f, t, f, f, f, f], .pick (.s [f, t, f, f, f, f, f]) (.s [f, f, t, f, f, f, f]) (.c (.bool f)), none⟩,
  ⟨some [f, t, t, f, f, f, f], .move (.s [t, f, t, f, f, f, f]), none⟩,
  ⟨some [t, t, t, f, f, f, f], .call f (.c (.func 20 [])) [], some ([f, t, t, f, f, f, f], t)⟩,
  ⟨some [f, f, f, t, f, f, f], .pick (.s [f, t, t, f, f, f, f]) (.s [t, t, t, f, f, f, f]) (.c (.bool f)), none⟩,
  ⟨some [t, t], .move (.s [f, f, f, t, f, f, f]), none⟩]) : CCode)) false true
def c5_o15 : CCode := (fun (f t : Bool) => (.trim [[f, f, f], [t, f, f], [f, t, f], [t, f, t], [f, t, t], [t, t, t], [f, f, f, f], [f, t, f, f], [t, t, f, f], [f, f, f, t]] (.ops [
  ⟨some [f, t, f, t, f, f, f], .move (.s [f, f, f]), none⟩,
  ⟨some [t, t, f, t, f, f, f], .move (.s [t, f, f]), none⟩,
  ⟨some [f, f, t, t, f, f, f], .move (.s [t, t, t]), none⟩,
  ⟨some [t, f, t, t, f, f, f], .move (.s [f, f, f, f]), none⟩,
  ⟨some [f, t, t, t, f, f, f], .call f (.c (.func 23 [])) [(.s [f, t, f, t, f, f, f]), (.s [t, t, f, t, f, f, f]), (.s [f, f, t, t, f, f, f]), (.s [t, f, t, t, f, f, f])], none⟩,
  ⟨some [t, f, f, t, f, f, f], .move (.s [f, t, t, t, f, f, f]), none⟩,
  ⟨some [t, t, t, t, f, f, f], .extract 0 (.s [t, f, f, t, f, f, f]), none⟩,
  ⟨some [f, f, f, f, t, f, f], .extract 1 (.s [t, f, f, t, f, f, f]), none⟩,
  ⟨some [t, f, f, t], .alloc none [.int .i64 0, .int .i64 0], none⟩,
  ⟨none, .store 2 (.s [t, f, f, t]) (.s [t, t, t, t, f, f, f]), none⟩,
  ⟨some [f, t, f, t], .move (.s [f, f, f, f, t, f, f]), none⟩]) : CCode)) false true
def c5_o16 : CCode := (fun (f t : Bool) => (.trim [[f, f, f], [f, t, f], [t, f, t], [f, t, t], [t, t, t], [f, f, f, f], [f, t, f, f], [t, t, f, f], [f, f, f, t], [t, f, f, t], [f, t, f, t]] (.ops [
  ⟨some [f, t, f, f, t, f, f], .move (.s [f, f, f]), none⟩,
  ⟨some [t, t, f, f, t, f, f], .move (.s [f, t, f]), none⟩,
  ⟨some [f, f, t, f, t, f, f], .move (.s [t, t, t]), none⟩,
  ⟨some [t, f, t, f, t, f, f], .move (.s [f, f, f, f]), none⟩,
  ⟨some [f, t, t, f, t, f, f], .call f (.c (.func 23 [])) [(.s [f, t, f, f, t, f, f]), (.s [t, t, f, f, t, f, f]), (.s [f, f, t, f, t, f, f]), (.s [t, f, t, f, t, f, f])], none⟩,
  ⟨some [t, f, f, f, t, f, f], .move (.s [f, t, t, f, t, f, f]), none⟩,
  ⟨some [t, t, t, f, t, f, f], .extract 0 (.s [t, f, f, f, t, f, f]), none⟩,
  ⟨some [f, f, f, t, t, f, f], .extract 1 (.s [t, f, f, f, t, f, f]), none⟩,
  ⟨some [t, t, f, t], .alloc none [.int .i64 0, .int .i64 0], none⟩,
  ⟨none, .store 2 (.s [t, t, f, t]) (.s [t, t, t, f, t, f, f]), none⟩,
  ⟨some [f, f, t, t], .move (.s [f, f, f, t, t, f, f]), none⟩]) : CCode)) false true
def c5_o17 : CCode := (fun (f t : Bool) => (.trim [[t, f, t], [f, t, t], [t, t, t], [f, f, f, f], [f, t, f, f], [t, t, f, f], [f, f, f, t], [t, f, f, t], [f, t, f, t], [t, t, f, t], [f, f, t, t]] (.ops [
  ⟨some [t, f, f, t, t, f, f], .move (.s [f, t, f, t]), none⟩,
  ⟨some [f, t, f, t, t, f, f], .bin .neq (.s [t, f, f, t, t, f, f]) (.c (.int .i64 0)), none⟩,
  ⟨some [t, t, f, t, t, f, f], .move (.s [f, t, f, t, t, f, f]), none⟩,
  ⟨some [f, f, t, t, t, f, f], .move (.s [f, f, t, t]), some ([t, t, f, t, t, f, f], f)⟩,
  ⟨some [t, f, t, t, t, f, f], .bin .neq (.s [f, f, t, t, t, f, f]) (.c (.int .i64 0)), some ([t, t, f, t, t, f, f], f)⟩,
  ⟨some [f, t, t, t, t, f, f], .pick (.s [t, t, f, t, t, f, f]) (.c (.bool t)) (.s [t, f, t, t, t, f, f]), none⟩,
  ⟨some [t, t, t, t, t, f, f], .move (.s [f, t, t, t, t, f, f]), none⟩,
  ⟨some [f, f, f, f, f, t, f], .load (some 2) (.s [t, f, f, t]), some ([t, t, t, t, t, f, f], f)⟩,
  ⟨some [t, f, f, f, f, t, f], .call f (.c (.func 26 [])) [(.s [f, f, f, f, f, t, f])], some ([t, t, t, t, t, f, f], f)⟩,
  ⟨some [f, t, f, f, f, t, f], .un .not (.s [t, f, f, f, f, t, f]), some ([t, t, t, t, t, f, f], f)⟩,
  ⟨some [t, t, f, f, f, t, f], .pick (.s [t, t, t, t, t, f, f]) (.c (.bool t)) (.s [f, t, f, f, f, t, f]), none⟩,
  ⟨some [f, f, t, f, f, t, f], .move (.s [t, t, f, f, f, t, f]), none⟩,
  ⟨some [t, f, t, f, f, t, f], .load (some 2) (.s [t, t, f, t]), some ([f, f, t, f, f, t, f], f)⟩,
  ⟨some [f, t, t, f, f, t, f], .call f (.c (.func 26 [])) [(.s [t, f, t, f, f, t, f])], some ([f, f, t, f, f, t, f], f)⟩,
  ⟨some [t, t, t, f, f, t, f], .un .not (.s [f, t, t, f, f, t, f]), some ([f, f, t, f, f, t, f], f)⟩,
  ⟨some [f, f, f, t, f, t, f], .pick (.s [f, f, t, f, f, t, f]) (.c (.bool t)) (.s [t, t, t, f, f, t, f]), none⟩,
  ⟨some [t, f, f, t, f, t, f], .move (.s [f, f, f, t, f, t, f]), none⟩,
  ⟨some [f, t, f, t, f, t, f], .load (some 2) (.s [t, f, f, t]), some ([t, f, f, t, f, t, f], f)⟩,
  ⟨some [t, t, f, t, f, t, f], .load (some 2) (.s [t, f, t]), some ([t, f, f, t, f, t, f], f)⟩,
  ⟨some [f, f, t, t, f, t, f], .call f (.c (.func 27 [])) [(.s [f, t, f, t, f, t, f]), (.s [t, t, f, t, f, t, f])], some ([t, f, f, t, f, t, f], f)⟩,
  ⟨some [t, f, t, t, f, t, f], .pick (.s [t, f, f, t, f, t, f]) (.c (.bool t)) (.s [f, f, t, t, f, t, f]), none⟩,
  ⟨some [f, t, t, t, f, t, f], .move (.s [t, f, t, t, f, t, f]), none⟩,
  ⟨some [t, t, t, t, f, t, f], .load (some 2) (.s [f, t, t]), some ([f, t, t, t, f, t, f], f)⟩,
  ⟨some [f, f, f, f, t, t, f], .load (some 2) (.s [t, t, f, t]), some ([f, t, t, t, f, t, f], f)⟩,
  ⟨some [t, f, f, f, t, t, f], .call f (.c (.func 27 [])) [(.s [t, t, t, t, f, t, f]), (.s [f, f, f, f, t, t, f])], some ([f, t, t, t, f, t, f], f)⟩,
  ⟨some [f, t, f, f, t, t, f], .pick (.s [f, t, t, t, f, t, f]) (.c (.bool t)) (.s [t, f, f, f, t, t, f]), none⟩]) : CCode)) false true
def c5_o18 : CCode := (fun (f t : Bool) => (.trim [] (.ops [
  ⟨some [t, t], .move (.c (.bool f)), none⟩]) : CCode)) false true
def c5_o19 : CCode := (fun (f t : Bool) => (.trim [[t, t, t], [f, f, f, f], [f, t, f, f], [t, t, f, f], [f, f, f, t]] (.ops [
  ⟨some [t, t, f, f, t, t, f], .move (.s [f, f, f, t]), none⟩,
  ⟨some [f, f, t, f, t, t, f], .un .not (.s [t, t, f, f, t, t, f]), none⟩,
  ⟨some [t, f, t, f, t, t, f], .move (.s [f, f, t, f, t, t, f]), none⟩,
  ⟨some [f, t, t, f, t, t, f], .move (.s [t, t, t]), some ([t, f, t, f, t, t, f], f)⟩,
  ⟨some [t, t, t, f, t, t, f], .move (.s [f, t, f, f]), some ([t, f, t, f, t, t, f], f)⟩,
  ⟨some [f, f, f, t, t, t, f], .bin .lss (.s [f, t, t, f, t, t, f]) (.s [t, t, t, f, t, t, f]), some ([t, f, t, f, t, t, f], f)⟩,
  ⟨some [t, f, f, t, t, t, f], .pick (.s [t, f, t, f, t, t, f]) (.c (.bool t)) (.s [f, f, f, t, t, t, f]), none⟩,
  ⟨some [f, t, f, t, t, t, f], .move (.s [t, f, f, t, t, t, f]), none⟩,
  ⟨some [t, t, f, t, t, t, f], .move (.s [t, t, t]), some ([f, t, f, t, t, t, f], f)⟩,
  ⟨some [f, f, t, t, t, t, f], .move (.s [f, t, f, f]), some ([f, t, f, t, t, t, f], f)⟩,
  ⟨some [t, f, t, t, t, t, f], .bin .eql (.s [t, t, f, t, t, t, f]) (.s [f, f, t, t, t, t, f]), some ([f, t, f, t, t, t, f], f)⟩,
  ⟨some [f, t, t, t, t, t, f], .move (.s [t, f, t, t, t, t, f]), some ([f, t, f, t, t, t, f], f)⟩,
  ⟨some [t, t, t, t, t, t, f], .move (.s [f, f, f, f]), some ([f, t, t, t, t, t, f], t)⟩,
  ⟨some [f, f, f, f, f, f, t], .move (.s [t, t, f, f]), some ([f, t, t, t, t, t, f], t)⟩,
  ⟨some [t, f, f, f, f, f, t], .bin .leq (.s [t, t, t, t, t, t, f]) (.s [f, f, f, f, f, f, t]), some ([f, t, t, t, t, t, f], t)⟩,
  ⟨some [f, t, f, f, f, f, t], .pick (.s [f, t, t, t, t, t, f]) (.s [t, f, f, f, f, f, t]) (.c (.bool f)), some ([f, t, f, t, t, t, f], f)⟩,
  ⟨some [t, t, f, f, f, f, t], .pick (.s [f, t, f, t, t, t, f]) (.c (.bool t)) (.s [f, t, f, f, f, f, t]), none⟩,
  ⟨some [f, f, t, f, f, f, t], .move (.s [t, t, f, f, f, f, t]), none⟩,
  ⟨some [t, f, t, f, f, f, t], .call f (.c (.func 20 [])) [], some ([f, f, t, f, f, f, t], t)⟩,
  ⟨some [f, t, t, f, f, f, t], .pick (.s [f, f, t, f, f, f, t]) (.s [t, f, t, f, f, f, t]) (.c (.bool f)), none⟩,
  ⟨some [t, t], .move (.s [f, t, t, f, f, f, t]), none⟩]) : CCode)) false true
def c5 : CFunc := (fun (f t : Bool) => ({ params := [[], [f], [t]], results := [.slot [t, t]], shared := f, body := (.seq c5_o0
 (.seq c5_o1
 (.seq c5_o2
 (.seq c5_o3
 (.seq c5_o4
 (.seq c5_o5
 (.seq c5_o6
 (.seq c5_o7
 (.seq c5_o8
 (.seq c5_o9
 (.seq (.seq c5_o10
 (.cond (.s [t, t, f, f, t, t]) (.seq c5_o11
 .ret) .skip))
 (.seq c5_o12
 (.seq (.seq c5_o13
 (.cond (.s [t, t, t, t, t, t]) (.seq c5_o14
 .ret) .skip))
 (.seq c5_o15
 (.seq c5_o16
 (.seq (.seq c5_o17
 (.cond (.s [f, t, f, f, t, t, f]) (.seq c5_o18
 .ret) .skip))
 (.seq c5_o19
 .ret))))))))))))))))) } : CFunc)) false true
-- numnah/numnahlaw05.SampleSingles
-- c6_o0: 0=[] 1=[f] 2=[t]
-- c6_o1: 0=[] 1=[f] 5=[f, t]
-- c6_o2: 0=[] 1=[f] 7=[f, f, f] 8=[t, f, f]
-- c6_o3: 0=[] 1=[f] 7=[f, f, f] 8=[t, f, f] 9=[f, t, f] 10=[t, t, f]
-- c6_o4: 0=[] 1=[f] 7=[f, f, f] 8=[t, f, f] 9=[f, t, f] 10=[t, t, f] 11=[f, f, t] 12=[t, f, t]
-- c6_o5: 9=[f, t, f] 10=[t, t, f] 11=[f, f, t] 12=[t, f, t]
-- c6_o6: 0=[] 1=[f] 7=[f, f, f] 8=[t, f, f] 9=[f, t, f] 10=[t, t, f] 11=[f, f, t] 12=[t, f, t]
-- c6_o7: 0=[] 1=[f] 7=[f, f, f] 8=[t, f, f] 9=[f, t, f] 10=[t, t, f] 11=[f, f, t] 12=[t, f, t] 13=[f, t, t]
-- c6_o8: 
-- c6_o9: 0=[] 1=[f] 7=[f, f, f] 8=[t, f, f] 11=[f, f, t] 12=[t, f, t] 13=[f, t, t]
-- c6_o10: 11=[f, f, t] 12=[t, f, t]
-- c6_o11: 0=[] 1=[f] 7=[f, f, f] 8=[t, f, f] 11=[f, f, t] 12=[t, f, t] 13=[f, t, t]
def c6_o0 : CCode := (fun (f t : Bool) => (.trim [[], [f], [t]] (.ops [
  ⟨some [f, t], .box none (.s [t]), none⟩,
  ⟨some [t, t], .move (.c (.bool f)), none⟩]) : CCode)) false true
def c6_o1 : CCode := (fun (f t : Bool) => (.trim [[], [f], [f, t]] (.draw 0 [
  ⟨some [t, t, t], .idxArr 2 1 (.s [f, t]) (.c (.int .i64 0)), none⟩,
  ⟨some [f, f, f, f], .load none (.s [t, t, t]), none⟩,
  ⟨some [t, f, f, f], .idxArr 2 1 (.s [f, t]) (.c (.int .i64 1)), none⟩,
  ⟨some [f, t, f, f], .load none (.s [t, f, f, f]), none⟩,
  ⟨some [f, f, f], .move (.s [f, f, f, f]), none⟩,
  ⟨some [t, f, f], .move (.s [f, t, f, f]), none⟩]
  [(1, 3)] [[], [0], [], [2], [0, 1], (r 5)]) : CCode)) false true
def c6_o2 : CCode := (fun (f t : Bool) => (.trim [[], [f], [f, f, f], [t, f, f]] (.ops [
  ⟨some [f, f, t, f], .move (.s []), none⟩,
  ⟨some [t, f, t, f], .move (.s [f]), none⟩,
  ⟨some [f, t, t, f], .call f (.c (.func 28 [])) [(.s [f, f, t, f]), (.s [t, f, t, f])], none⟩,
  ⟨some [t, t, f, f], .move (.s [f, t, t, f]), none⟩,
  ⟨some [t, t, t, f], .extract 0 (.s [t, t, f, f]), none⟩,
  ⟨some [f, f, f, t], .extract 1 (.s [t, t, f, f]), none⟩,
  ⟨some [f, t, f], .move (.s [t, t, t, f]), none⟩,
  ⟨some [t, t, f], .move (.s [f, f, f, t]), none⟩]) : CCode)) false true
def c6_o3 : CCode := (fun (f t : Bool) => (.trim [[], [f], [f, f, f], [t, f, f], [f, t, f], [t, t, f]] (.ops [
  ⟨some [f, t, f, t], .move (.s []), none⟩,
  ⟨some [t, t, f, t], .move (.s [f]), none⟩,
  ⟨some [f, f, t, t], .move (.s [f, f, f]), none⟩,
  ⟨some [t, f, t, t], .move (.s [t, f, f]), none⟩,
  ⟨some [f, t, t, t], .call f (.c (.func 23 [])) [(.s [f, t, f, t]), (.s [t, t, f, t]), (.s [f, f, t, t]), (.s [t, f, t, t])], none⟩,
  ⟨some [t, f, f, t], .move (.s [f, t, t, t]), none⟩,
  ⟨some [t, t, t, t], .extract 0 (.s [t, f, f, t]), none⟩,
  ⟨some [f, f, f, f, f], .extract 1 (.s [t, f, f, t]), none⟩,
  ⟨some [f, f, t], .alloc none [.int .i64 0, .int .i64 0], none⟩,
  ⟨none, .store 2 (.s [f, f, t]) (.s [t, t, t, t]), none⟩,
  ⟨some [t, f, t], .move (.s [f, f, f, f, f]), none⟩]) : CCode)) false true
def c6_o4 : CCode := (fun (f t : Bool) => (.trim [[], [f], [f, f, f], [t, f, f], [f, t, f], [t, t, f], [f, f, t], [t, f, t]] (.ops [
  ⟨some [t, f, f, f, f], .move (.s []), none⟩,
  ⟨some [f, t, f, f, f], .move (.s [f]), none⟩,
  ⟨some [t, t, f, f, f], .call f (.c (.func 18 [])) [(.s [t, f, f, f, f]), (.s [f, t, f, f, f])], none⟩,
  ⟨some [f, f, t, f, f], .un .not (.s [t, t, f, f, f]), none⟩]) : CCode)) false true
def c6_o5 : CCode := (fun (f t : Bool) => (.trim [[f, t, f], [t, t, f], [f, f, t], [t, f, t]] (.ops [
  ⟨some [t, f, t, f, f], .move (.s [f, t, f]), none⟩,
  ⟨some [f, t, t, f, f], .bin .eql (.s [t, f, t, f, f]) (.c (.int .i64 0)), none⟩,
  ⟨some [t, t, t, f, f], .move (.s [f, t, t, f, f]), none⟩,
  ⟨some [f, f, f, t, f], .move (.s [t, t, f]), some ([t, t, t, f, f], t)⟩,
  ⟨some [t, f, f, t, f], .bin .eql (.s [f, f, f, t, f]) (.c (.int .i64 2)), some ([t, t, t, f, f], t)⟩,
  ⟨some [f, t, f, t, f], .pick (.s [t, t, t, f, f]) (.s [t, f, f, t, f]) (.c (.bool f)), none⟩,
  ⟨some [t, t, f, t, f], .move (.s [f, t, f, t, f]), none⟩,
  ⟨some [f, f, t, t, f], .load (some 2) (.s [f, f, t]), some ([t, t, f, t, f], t)⟩,
  ⟨some [t, f, t, t, f], .build [.int .i64 0, .int .i64 0] [], some ([t, t, f, t, f], t)⟩,
  ⟨some [f, t, t, t, f], .eqa [.i .i64, .i .i64] f (.s [f, f, t, t, f]) (.s [t, f, t, t, f]), some ([t, t, f, t, f], t)⟩,
  ⟨some [t, t, t, t, f], .pick (.s [t, t, f, t, f]) (.s [f, t, t, t, f]) (.c (.bool f)), none⟩,
  ⟨some [f, f, f, f, t], .move (.s [t, t, t, t, f]), none⟩,
  ⟨some [t, f, f, f, t], .move (.s [t, f, t]), some ([f, f, f, f, t], t)⟩,
  ⟨some [f, t, f, f, t], .bin .eql (.s [t, f, f, f, t]) (.c (.int .i64 2)), some ([f, f, f, f, t], t)⟩,
  ⟨some [t, t, f, f, t], .pick (.s [f, f, f, f, t]) (.s [f, t, f, f, t]) (.c (.bool f)), none⟩,
  ⟨some [f, f, t, f, t], .move (.s [t, t, f, f, t]), none⟩,
  ⟨some [t, f, t, f, t], .call f (.c (.func 20 [])) [], some ([f, f, t, f, t], t)⟩,
  ⟨some [f, t, t, f, t], .pick (.s [f, f, t, f, t]) (.s [t, f, t, f, t]) (.c (.bool f)), none⟩,
  ⟨some [t, t], .move (.s [f, t, t, f, t]), none⟩]) : CCode)) false true
def c6_o6 : CCode := (fun (f t : Bool) => (.trim [[], [f], [f, f, f], [t, f, f], [f, t, f], [t, t, f], [f, f, t], [t, f, t]] (.ops [
  ⟨some [t, t, t, f, t], .move (.s []), none⟩,
  ⟨some [f, f, f, t, t], .move (.s [f]), none⟩,
  ⟨some [t, f, f, t, t], .call f (.c (.func 29 [])) [(.s [t, t, t, f, t]), (.s [f, f, f, t, t])], none⟩,
  ⟨some [f, t, t], .move (.s [t, f, f, t, t]), none⟩]) : CCode)) false true
def c6_o7 : CCode := (fun (f t : Bool) => (.trim [[], [f], [f, f, f], [t, f, f], [f, t, f], [t, t, f], [f, f, t], [t, f, t], [f, t, t]] (.ops [
  ⟨some [f, t, f, t, t], .move (.s [f, t, f]), none⟩,
  ⟨some [t, t, f, t, t], .move (.s [f, t, t]), none⟩,
  ⟨some [f, f, t, t, t], .bin .neq (.s [f, t, f, t, t]) (.s [t, t, f, t, t]), none⟩,
  ⟨some [t, f, t, t, t], .move (.s [f, f, t, t, t]), none⟩,
  ⟨some [f, t, t, t, t], .move (.s [t, t, f]), some ([t, f, t, t, t], f)⟩,
  ⟨some [t, t, t, t, t], .bin .neq (.s [f, t, t, t, t]) (.c (.int .i64 0)), some ([t, f, t, t, t], f)⟩,
  ⟨some [f, f, f, f, f, f], .pick (.s [t, f, t, t, t]) (.c (.bool t)) (.s [t, t, t, t, t]), none⟩]) : CCode)) false true
def c6_o8 : CCode := (fun (f t : Bool) => (.trim [] (.ops [
  ⟨some [t, t], .move (.c (.bool f)), none⟩]) : CCode)) false true
def c6_o9 : CCode := (fun (f t : Bool) => (.trim [[], [f], [f, f, f], [t, f, f], [f, f, t], [t, f, t], [f, t, t]] (.ops [
  ⟨some [t, f, f, f, f, f], .move (.s []), none⟩,
  ⟨some [f, t, f, f, f, f], .move (.s [f, f, f]), none⟩,
  ⟨some [t, t, f, f, f, f], .move (.s [t, f, f]), none⟩,
  ⟨some [f, f, t, f, f, f], .call f (.c (.func 30 [])) [(.s [t, f, f, f, f, f]), (.s [f, t, f, f, f, f]), (.s [t, t, f, f, f, f])], none⟩,
  ⟨some [t, f, t, f, f, f], .un .not (.s [f, f, t, f, f, f]), none⟩]) : CCode)) false true
def c6_o10 : CCode := (fun (f t : Bool) => (.trim [[f, f, t], [t, f, t]] (.ops [
  ⟨some [f, t, t, f, f, f], .load (some 2) (.s [f, f, t]), none⟩,
  ⟨some [t, t, t, f, f, f], .build [.int .i64 0, .int .i64 0] [], none⟩,
  ⟨some [f, f, f, t, f, f], .eqa [.i .i64, .i .i64] f (.s [f, t, t, f, f, f]) (.s [t, t, t, f, f, f]), none⟩,
  ⟨some [t, f, f, t, f, f], .move (.s [f, f, f, t, f, f]), none⟩,
  ⟨some [f, t, f, t, f, f], .move (.s [t, f, t]), some ([t, f, f, t, f, f], t)⟩,
  ⟨some [t, t, f, t, f, f], .bin .eql (.s [f, t, f, t, f, f]) (.c (.int .i64 2)), some ([t, f, f, t, f, f], t)⟩,
  ⟨some [f, f, t, t, f, f], .pick (.s [t, f, f, t, f, f]) (.s [t, t, f, t, f, f]) (.c (.bool f)), none⟩,
  ⟨some [t, f, t, t, f, f], .move (.s [f, f, t, t, f, f]), none⟩,
  ⟨some [f, t, t, t, f, f], .call f (.c (.func 20 [])) [], some ([t, f, t, t, f, f], t)⟩,
  ⟨some [t, t, t, t, f, f], .pick (.s [t, f, t, t, f, f]) (.s [f, t, t, t, f, f]) (.c (.bool f)), none⟩,
  ⟨some [t, t], .move (.s [t, t, t, t, f, f]), none⟩]) : CCode)) false true
def c6_o11 : CCode := (fun (f t : Bool) => (.trim [[], [f], [f, f, f], [t, f, f], [f, f, t], [t, f, t], [f, t, t]] (.draw 0 [
  ⟨some [f, f, f, f, t, f], .load (some 2) (.s [f, f, t]), none⟩,
  ⟨some [t, f, f, f, t, f], .move (.s []), none⟩,
  ⟨some [f, t, f, f, t, f], .move (.s [f]), none⟩,
  ⟨some [t, t, f, f, t, f], .move (.s [f, f, f]), none⟩,
  ⟨some [f, f, t, f, t, f], .move (.s [t, f, f]), none⟩,
  ⟨some [t, f, t, f, t, f], .call f (.c (.func 31 [])) [(.s [t, f, f, f, t, f]), (.s [f, t, f, f, t, f]), (.s [t, t, f, f, t, f]), (.s [f, f, t, f, t, f])], none⟩,
  ⟨some [f, t, t, f, t, f], .move (.s [f, t, t]), none⟩,
  ⟨some [t, t, t, f, t, f], .call f (.c (.func 25 [])) [(.s [t, f, t, f, t, f]), (.s [f, t, t, f, t, f])], none⟩,
  ⟨some [f, f, f, t, t, f], .eqa [.i .i64, .i .i64] f (.s [f, f, f, f, t, f]) (.s [t, t, t, f, t, f]), none⟩,
  ⟨some [t, f, f, t, t, f], .move (.s [f, f, f, t, t, f]), none⟩,
  ⟨some [f, t, f, t, t, f], .move (.s [t, f, t]), some ([t, f, f, t, t, f], t)⟩,
  ⟨some [t, t, f, t, t, f], .bin .eql (.s [f, t, f, t, t, f]) (.c (.int .i64 0)), some ([t, f, f, t, t, f], t)⟩,
  ⟨some [f, f, t, t, t, f], .pick (.s [t, f, f, t, t, f]) (.s [t, t, f, t, t, f]) (.c (.bool f)), none⟩,
  ⟨some [t, f, t, t, t, f], .move (.s [f, f, t, t, t, f]), none⟩,
  ⟨some [f, t, t, t, t, f], .call f (.c (.func 20 [])) [], some ([t, f, t, t, t, f], t)⟩,
  ⟨some [t, t, t, t, t, f], .pick (.s [t, f, t, t, t, f]) (.s [f, t, t, t, t, f]) (.c (.bool f)), none⟩,
  ⟨some [t, t], .move (.s [t, t, t, t, t, f]), none⟩]
  [(0, 5), (0, 7)] [[], [], [], [], [], [1, 2, 3, 4], [], [1, 2, 3, 4, 5, 6], (r 8), (r 9), (r 10), (r 11), (r 12), (r 13), (r 14), (r 15), (r 16)]) : CCode)) false true
def c6 : CFunc := (fun (f t : Bool) => ({ params := [[], [f], [t]], results := [.slot [t, t]], shared := f, body := (.seq c6_o0
 (.seq c6_o1
 (.seq c6_o2
 (.seq c6_o3
 (.seq (.seq c6_o4
 (.cond (.s [f, f, t, f, f]) (.seq c6_o5
 .ret) .skip))
 (.seq c6_o6
 (.seq (.seq c6_o7
 (.cond (.s [f, f, f, f, f, f]) (.seq c6_o8
 .ret) .skip))
 (.seq (.seq c6_o9
 (.cond (.s [t, f, t, f, f, f]) (.seq c6_o10
 .ret) .skip))
 (.seq c6_o11
 .ret))))))))) } : CFunc)) false true
-- numnah/numnahlaw05.SamplePascal
-- c8_o0: 0=[] 1=[f]
-- c8_o1: 0=[] 1=[f]
-- c8_o2: 0=[] 1=[f]
-- c8_o3: 0=[] 1=[f]
-- c8_o4: 0=[] 1=[f] 5=[f, t] 6=[t, t]
-- c8_o5: 0=[] 1=[f] 5=[f, t] 6=[t, t] 7=[f, f, f] 8=[t, f, f]
-- c8_o6: 0=[] 1=[f] 5=[f, t] 6=[t, t] 7=[f, f, f] 8=[t, f, f] 9=[f, t, f] 10=[t, t, f]
-- c8_o7: 5=[f, t] 6=[t, t] 7=[f, f, f] 8=[t, f, f] 9=[f, t, f] 10=[t, t, f] 11=[f, f, t] 12=[t, f, t]
def c8_o0 : CCode := (fun (f t : Bool) => (.trim [[], [f]] (.ops [
  ⟨some [t, f], .move (.c (.bool f)), none⟩]) : CCode)) false true
def c8_o1 : CCode := (fun (f t : Bool) => (.trim [[], [f]] (.ops [
  ⟨some [f, t, t], .move (.s []), none⟩,
  ⟨some [t, t, t], .call f (.c (.func 24 [])) [(.s [f, t, t]), (.c (.int .i64 35))], none⟩,
  ⟨some [f, f, f, f], .bin .add (.c (.int .i64 2)) (.s [t, t, t]), none⟩,
  ⟨some [], .move (.s [f, f, f, f]), none⟩]) : CCode)) false true
def c8_o2 : CCode := (fun (f t : Bool) => (.trim [[], [f]] (.ops [
  ⟨some [t, f, f, f], .move (.s [f]), none⟩,
  ⟨some [f, t, f, f], .move (.s []), none⟩,
  ⟨some [t, t, f, f], .bin .sub (.s [f, t, f, f]) (.c (.int .i64 1)), none⟩,
  ⟨some [f, f, t, f], .call f (.c (.func 24 [])) [(.s [t, f, f, f]), (.s [t, t, f, f])], none⟩,
  ⟨some [t, f, t, f], .bin .add (.c (.int .i64 1)) (.s [f, f, t, f]), none⟩,
  ⟨some [f], .move (.s [t, f, t, f]), none⟩]) : CCode)) false true
def c8_o3 : CCode := (fun (f t : Bool) => (.trim [[], [f]] (.ops [
  ⟨some [t, t, t, f], .move (.s []), none⟩,
  ⟨some [f, f, f, t], .move (.s [f]), none⟩,
  ⟨some [t, f, f, t], .call f (.c (.func 28 [])) [(.s [t, t, t, f]), (.s [f, f, f, t])], none⟩,
  ⟨some [f, t, t, f], .move (.s [t, f, f, t]), none⟩,
  ⟨some [f, t, f, t], .extract 0 (.s [f, t, t, f]), none⟩,
  ⟨some [t, t, f, t], .extract 1 (.s [f, t, t, f]), none⟩,
  ⟨some [f, t], .move (.s [f, t, f, t]), none⟩,
  ⟨some [t, t], .move (.s [t, t, f, t]), none⟩]) : CCode)) false true
def c8_o4 : CCode := (fun (f t : Bool) => (.trim [[], [f], [f, t], [t, t]] (.ops [
  ⟨some [t, f, t, t], .move (.s []), none⟩,
  ⟨some [f, t, t, t], .bin .sub (.s [t, f, t, t]) (.c (.int .i64 1)), none⟩,
  ⟨some [t, t, t, t], .move (.s [f]), none⟩,
  ⟨some [f, f, f, f, f], .call f (.c (.func 28 [])) [(.s [f, t, t, t]), (.s [t, t, t, t])], none⟩,
  ⟨some [f, f, t, t], .move (.s [f, f, f, f, f]), none⟩,
  ⟨some [t, f, f, f, f], .extract 0 (.s [f, f, t, t]), none⟩,
  ⟨some [f, t, f, f, f], .extract 1 (.s [f, f, t, t]), none⟩,
  ⟨some [f, f, f], .move (.s [t, f, f, f, f]), none⟩,
  ⟨some [t, f, f], .move (.s [f, t, f, f, f]), none⟩]) : CCode)) false true
def c8_o5 : CCode := (fun (f t : Bool) => (.trim [[], [f], [f, t], [t, t], [f, f, f], [t, f, f]] (.ops [
  ⟨some [f, f, t, f, f], .move (.s []), none⟩,
  ⟨some [t, f, t, f, f], .bin .sub (.s [f, f, t, f, f]) (.c (.int .i64 1)), none⟩,
  ⟨some [f, t, t, f, f], .move (.s [f]), none⟩,
  ⟨some [t, t, t, f, f], .bin .sub (.s [f, t, t, f, f]) (.c (.int .i64 1)), none⟩,
  ⟨some [f, f, f, t, f], .call f (.c (.func 28 [])) [(.s [t, f, t, f, f]), (.s [t, t, t, f, f])], none⟩,
  ⟨some [t, t, f, f, f], .move (.s [f, f, f, t, f]), none⟩,
  ⟨some [t, f, f, t, f], .extract 0 (.s [t, t, f, f, f]), none⟩,
  ⟨some [f, t, f, t, f], .extract 1 (.s [t, t, f, f, f]), none⟩,
  ⟨some [f, t, f], .move (.s [t, f, f, t, f]), none⟩,
  ⟨some [t, t, f], .move (.s [f, t, f, t, f]), none⟩]) : CCode)) false true
def c8_o6 : CCode := (fun (f t : Bool) => (.trim [[], [f], [f, t], [t, t], [f, f, f], [t, f, f], [f, t, f], [t, t, f]] (.ops [
  ⟨some [f, f, t, t, f], .move (.s []), none⟩,
  ⟨some [t, f, t, t, f], .move (.s []), none⟩,
  ⟨some [f, t, t, t, f], .move (.s [f]), none⟩,
  ⟨some [t, t, t, t, f], .bin .sub (.s [t, f, t, t, f]) (.s [f, t, t, t, f]), none⟩,
  ⟨some [f, f, f, f, t], .call f (.c (.func 28 [])) [(.s [f, f, t, t, f]), (.s [t, t, t, t, f])], none⟩,
  ⟨some [t, t, f, t, f], .move (.s [f, f, f, f, t]), none⟩,
  ⟨some [t, f, f, f, t], .extract 0 (.s [t, t, f, t, f]), none⟩,
  ⟨some [f, t, f, f, t], .extract 1 (.s [t, t, f, t, f]), none⟩,
  ⟨some [f, f, t], .move (.s [t, f, f, f, t]), none⟩,
  ⟨some [t, f, t], .move (.s [f, t, f, f, t]), none⟩]) : CCode)) false true
def c8_o7 : CCode := (fun (f t : Bool) => (.trim [[f, t], [t, t], [f, f, f], [t, f, f], [f, t, f], [t, t, f], [f, f, t], [t, f, t]] (.ops [
  ⟨some [t, t, f, f, t], .move (.s [t, t]), none⟩,
  ⟨some [f, f, t, f, t], .bin .eql (.s [t, t, f, f, t]) (.c (.int .i64 0)), none⟩,
  ⟨some [t, f, t, f, t], .move (.s [f, f, t, f, t]), none⟩,
  ⟨some [f, t, t, f, t], .move (.s [t, f, f]), some ([t, f, t, f, t], t)⟩,
  ⟨some [t, t, t, f, t], .bin .eql (.s [f, t, t, f, t]) (.c (.int .i64 0)), some ([t, f, t, f, t], t)⟩,
  ⟨some [f, f, f, t, t], .pick (.s [t, f, t, f, t]) (.s [t, t, t, f, t]) (.c (.bool f)), none⟩,
  ⟨some [t, f, f, t, t], .move (.s [f, f, f, t, t]), none⟩,
  ⟨some [f, t, f, t, t], .move (.s [t, t, f]), some ([t, f, f, t, t], t)⟩,
  ⟨some [t, t, f, t, t], .bin .eql (.s [f, t, f, t, t]) (.c (.int .i64 0)), some ([t, f, f, t, t], t)⟩,
  ⟨some [f, f, t, t, t], .pick (.s [t, f, f, t, t]) (.s [t, t, f, t, t]) (.c (.bool f)), none⟩,
  ⟨some [t, f, t, t, t], .move (.s [f, f, t, t, t]), none⟩,
  ⟨some [f, t, t, t, t], .move (.s [t, f, t]), some ([t, f, t, t, t], t)⟩,
  ⟨some [t, t, t, t, t], .bin .eql (.s [f, t, t, t, t]) (.c (.int .i64 0)), some ([t, f, t, t, t], t)⟩,
  ⟨some [f, f, f, f, f, f], .pick (.s [t, f, t, t, t]) (.s [t, t, t, t, t]) (.c (.bool f)), none⟩,
  ⟨some [t, f, f, f, f, f], .move (.s [f, f, f, f, f, f]), none⟩,
  ⟨some [f, t, f, f, f, f], .move (.s [f, t]), some ([t, f, f, f, f, f], t)⟩,
  ⟨some [t, t, f, f, f, f], .move (.s [f, f, f]), some ([t, f, f, f, f, f], t)⟩,
  ⟨some [f, f, t, f, f, f], .move (.s [f, t, f]), some ([t, f, f, f, f, f], t)⟩,
  ⟨some [t, f, t, f, f, f], .bin .add (.s [t, t, f, f, f, f]) (.s [f, f, t, f, f, f]), some ([t, f, f, f, f, f], t)⟩,
  ⟨some [f, t, t, f, f, f], .bin .eql (.s [f, t, f, f, f, f]) (.s [t, f, t, f, f, f]), some ([t, f, f, f, f, f], t)⟩,
  ⟨some [t, t, t, f, f, f], .pick (.s [t, f, f, f, f, f]) (.s [f, t, t, f, f, f]) (.c (.bool f)), none⟩,
  ⟨some [f, f, f, t, f, f], .move (.s [t, t, t, f, f, f]), none⟩,
  ⟨some [t, f, f, t, f, f], .move (.s [f, t]), some ([f, f, f, t, f, f], t)⟩,
  ⟨some [f, t, f, t, f, f], .move (.s [f, f, t]), some ([f, f, f, t, f, f], t)⟩,
  ⟨some [t, t, f, t, f, f], .bin .eql (.s [t, f, f, t, f, f]) (.s [f, t, f, t, f, f]), some ([f, f, f, t, f, f], t)⟩,
  ⟨some [f, f, t, t, f, f], .pick (.s [f, f, f, t, f, f]) (.s [t, t, f, t, f, f]) (.c (.bool f)), none⟩,
  ⟨some [t, f, t, t, f, f], .move (.s [f, f, t, t, f, f]), none⟩,
  ⟨some [f, t, t, t, f, f], .call f (.c (.func 20 [])) [], some ([t, f, t, t, f, f], t)⟩,
  ⟨some [t, t, t, t, f, f], .pick (.s [t, f, t, t, f, f]) (.s [f, t, t, t, f, f]) (.c (.bool f)), none⟩,
  ⟨some [t, f], .move (.s [t, t, t, t, f, f]), none⟩]) : CCode)) false true
def c8 : CFunc := (fun (f t : Bool) => ({ params := [[], [f]], results := [.slot [t, f]], shared := f, body := (.seq c8_o0
 (.seq c8_o1
 (.seq c8_o2
 (.seq c8_o3
 (.seq c8_o4
 (.seq c8_o5
 (.seq c8_o6
 (.seq c8_o7
 .ret)))))))) } : CFunc)) false true
-- numnah/numnahlaw05.SampleCourses
-- c11_o0: 0=[] 1=[f] 2=[t]
-- c11_o1: 0=[] 1=[f] 5=[f, t]
-- c11_o2: 0=[] 1=[f] 7=[f, f, f]
-- c11_o3: 0=[] 1=[f] 7=[f, f, f] 8=[t, f, f]
-- c11_o4: 0=[] 1=[f] 7=[f, f, f] 8=[t, f, f] 9=[f, t, f] 10=[t, t, f] 11=[f, f, t]
-- c11_o5: 0=[] 1=[f] 7=[f, f, f] 8=[t, f, f] 9=[f, t, f] 10=[t, t, f] 11=[f, f, t] 12=[t, f, t] 13=[f, t, t] 14=[t, t, t]
-- c11_o6: 0=[] 1=[f] 7=[f, f, f] 8=[t, f, f] 9=[f, t, f] 10=[t, t, f] 11=[f, f, t] 12=[t, f, t] 13=[f, t, t] 14=[t, t, t] 15=[f, f, f, f]
-- c11_o7: 
-- c11_o8: 0=[] 1=[f] 7=[f, f, f] 9=[f, t, f] 10=[t, t, f] 11=[f, f, t] 12=[t, f, t] 13=[f, t, t] 14=[t, t, t] 15=[f, f, f, f]
-- c11_o9: 9=[f, t, f] 10=[t, t, f] 11=[f, f, t] 12=[t, f, t] 13=[f, t, t] 14=[t, t, t]
-- c11_o10: 0=[] 1=[f] 7=[f, f, f] 9=[f, t, f] 10=[t, t, f] 11=[f, f, t] 12=[t, f, t] 13=[f, t, t] 14=[t, t, t]
-- c11_o11: 0=[] 1=[f] 7=[f, f, f] 9=[f, t, f] 10=[t, t, f] 11=[f, f, t] 12=[t, f, t] 13=[f, t, t] 14=[t, t, t] 16=[t, f, f, f]
-- c11_o12: 0=[] 1=[f] 7=[f, f, f] 9=[f, t, f] 10=[t, t, f] 11=[f, f, t] 12=[t, f, t] 13=[f, t, t] 14=[t, t, t] 16=[t, f, f, f] 17=[f, t, f, f] 18=[t, t, f, f]
-- c11_o13: 9=[f, t, f] 10=[t, t, f] 11=[f, f, t] 12=[t, f, t] 13=[f, t, t] 14=[t, t, t] 16=[t, f, f, f] 17=[f, t, f, f] 18=[t, t, f, f] 19=[f, f, t, f] 20=[t, f, t, f]
-- c11_o14: 
-- c11_o15: 12=[t, f, t] 13=[f, t, t] 16=[t, f, f, f] 19=[f, f, t, f] 20=[t, f, t, f]
-- c11_o16: 12=[t, f, t] 13=[f, t, t] 16=[t, f, f, f] 19=[f, f, t, f] 20=[t, f, t, f] 21=[f, t, t, f]
-- c11_o17: 12=[t, f, t] 13=[f, t, t] 16=[t, f, f, f] 19=[f, f, t, f] 20=[t, f, t, f] 21=[f, t, t, f]
-- c11_o18: 
-- c11_o19: 12=[t, f, t] 13=[f, t, t] 16=[t, f, f, f] 19=[f, f, t, f] 20=[t, f, t, f] 21=[f, t, t, f]
-- c11_l0: live slots [12, 13, 16, 19, 20, 21]
-- c11_o20: 
def c11_o0 : CCode := (fun (f t : Bool) => (.trim [[], [f], [t]] (.ops [
  ⟨some [f, t], .box none (.s [t]), none⟩,
  ⟨some [t, t], .move (.c (.bool f)), none⟩]) : CCode)) false true
def c11_o1 : CCode := (fun (f t : Bool) => (.trim [[], [f], [f, t]] (.ops [
  ⟨some [t, t, t, f], .load (some 2) (.s [f, t]), none⟩,
  ⟨some [f, f, f, t], .call f (.c (.func 38 [])) [(.s [t, t, t, f])], none⟩,
  ⟨some [f, f, f], .alloc none [.nils, .nils], none⟩,
  ⟨none, .store 2 (.s [f, f, f]) (.s [f, f, f, t]), none⟩]) : CCode)) false true
def c11_o2 : CCode := (fun (f t : Bool) => (.trim [[], [f], [f, f, f]] (.ops [
  ⟨some [t, f, f, t], .move (.s []), none⟩,
  ⟨some [f, t, f, t], .load (some 2) (.s [f, f, f]), none⟩,
  ⟨some [t, t, f, t], .call f (.c (.func 33 [])) [(.s [t, f, f, t]), (.s [f, t, f, t])], none⟩,
  ⟨some [t, f, f], .move (.s [t, t, f, t]), none⟩]) : CCode)) false true
def c11_o3 : CCode := (fun (f t : Bool) => (.trim [[], [f], [f, f, f], [t, f, f]] (.ops [
  ⟨some [t, f, t, t], .move (.s []), none⟩,
  ⟨some [f, t, t, t], .move (.s [f]), none⟩,
  ⟨some [t, t, t, t], .load (some 2) (.s [f, f, f]), none⟩,
  ⟨some [f, f, f, f, f], .call f (.c (.func 34 [])) [(.s [t, f, t, t]), (.s [f, t, t, t]), (.s [t, t, t, t])], none⟩,
  ⟨some [f, f, t, t], .move (.s [f, f, f, f, f]), none⟩,
  ⟨some [t, f, f, f, f], .extract 0 (.s [f, f, t, t]), none⟩,
  ⟨some [f, t, f, f, f], .extract 1 (.s [f, f, t, t]), none⟩,
  ⟨some [t, t, f, f, f], .extract 2 (.s [f, f, t, t]), none⟩,
  ⟨some [f, t, f], .alloc none [.int .i64 0, .int .i64 0], none⟩,
  ⟨some [t, t, f], .alloc none [.int .i64 0, .int .i64 0], none⟩,
  ⟨none, .store 2 (.s [f, t, f]) (.s [t, f, f, f, f]), none⟩,
  ⟨none, .store 2 (.s [t, t, f]) (.s [f, t, f, f, f]), none⟩,
  ⟨some [f, f, t], .move (.s [t, t, f, f, f]), none⟩]) : CCode)) false true
def c11_o4 : CCode := (fun (f t : Bool) => (.trim [[], [f], [f, f, f], [t, f, f], [f, t, f], [t, t, f], [f, f, t]] (.ops [
  ⟨some [t, f, t, f, f], .move (.s []), none⟩,
  ⟨some [f, t, t, f, f], .move (.s [f]), none⟩,
  ⟨some [t, t, t, f, f], .load (some 2) (.s [f, f, f]), none⟩,
  ⟨some [f, f, f, t, f], .call f (.c (.func 39 [])) [(.s [t, f, t, f, f]), (.s [f, t, t, f, f]), (.s [t, t, t, f, f])], none⟩,
  ⟨some [f, f, t, f, f], .move (.s [f, f, f, t, f]), none⟩,
  ⟨some [t, f, f, t, f], .extract 0 (.s [f, f, t, f, f]), none⟩,
  ⟨some [f, t, f, t, f], .extract 1 (.s [f, f, t, f, f]), none⟩,
  ⟨some [t, t, f, t, f], .extract 2 (.s [f, f, t, f, f]), none⟩,
  ⟨some [t, f, t], .move (.s [t, f, f, t, f]), none⟩,
  ⟨some [f, t, t], .move (.s [f, t, f, t, f]), none⟩,
  ⟨some [t, t, t], .move (.s [t, t, f, t, f]), none⟩]) : CCode)) false true
def c11_o5 : CCode := (fun (f t : Bool) => (.trim [[], [f], [f, f, f], [t, f, f], [f, t, f], [t, t, f], [f, f, t], [t, f, t], [f, t, t], [t, t, t]] (.ops [
  ⟨some [f, f, t, t, f], .move (.s []), none⟩,
  ⟨some [t, f, t, t, f], .bin .geq (.s [f, f, t, t, f]) (.c (.int .i64 1)), none⟩,
  ⟨some [f, t, t, t, f], .move (.s [t, f, t, t, f]), none⟩,
  ⟨some [t, t, t, t, f], .move (.s []), some ([f, t, t, t, f], t)⟩,
  ⟨some [f, f, f, f, t], .bin .leq (.s [t, t, t, t, f]) (.c (.int .i64 36)), some ([f, t, t, t, f], t)⟩,
  ⟨some [t, f, f, f, t], .pick (.s [f, t, t, t, f]) (.s [f, f, f, f, t]) (.c (.bool f)), none⟩,
  ⟨some [f, t, f, f, t], .move (.s [t, f, f, f, t]), none⟩,
  ⟨some [t, t, f, f, t], .move (.s []), some ([f, t, f, f, t], t)⟩,
  ⟨some [f, f, t, f, t], .load (some 2) (.s [f, f, f]), some ([f, t, f, f, t], t)⟩,
  ⟨some [t, f, t, f, t], .call f (.c (.func 40 [])) [(.s [t, t, f, f, t]), (.s [f, f, t, f, t])], some ([f, t, f, f, t], t)⟩,
  ⟨some [f, t, t, f, t], .pick (.s [f, t, f, f, t]) (.s [t, f, t, f, t]) (.c (.bool f)), none⟩,
  ⟨some [f, f, f, f], .move (.s [f, t, t, f, t]), none⟩]) : CCode)) false true
def c11_o6 : CCode := (fun (f t : Bool) => (.trim [[], [f], [f, f, f], [t, f, f], [f, t, f], [t, t, f], [f, f, t], [t, f, t], [f, t, t], [t, t, t], [f, f, f, f]] (.ops [
  ⟨some [t, t, t, f, t], .move (.s [f, f, f, f]), none⟩,
  ⟨some [f, f, f, t, t], .move (.s [t, f, f]), none⟩,
  ⟨some [t, f, f, t, t], .bin .eql (.s [f, f, f, t, t]) (.c (.int .i64 0)), none⟩,
  ⟨some [f, t, f, t, t], .eqv 0 t (.s [t, t, t, f, t]) (.s [t, f, f, t, t]), none⟩,
  ⟨some [t, t, f, t, t], .move (.s [f, t, f, t, t]), none⟩,
  ⟨some [f, f, t, t, t], .move (.s [f, f, f, f]), some ([t, t, f, t, t], f)⟩,
  ⟨some [t, f, t, t, t], .un .not (.s [f, f, t, t, t]), some ([t, t, f, t, t], f)⟩,
  ⟨some [f, t, t, t, t], .move (.s [t, f, t, t, t]), some ([t, t, f, t, t], f)⟩,
  ⟨some [t, t, t, t, t], .move (.s [t, f, f]), some ([f, t, t, t, t], t)⟩,
  ⟨some [f, f, f, f, f, f], .bin .neq (.s [t, t, t, t, t]) (.c (.int .i64 2)), some ([f, t, t, t, t], t)⟩,
  ⟨some [t, f, f, f, f, f], .pick (.s [f, t, t, t, t]) (.s [f, f, f, f, f, f]) (.c (.bool f)), some ([t, t, f, t, t], f)⟩,
  ⟨some [f, t, f, f, f, f], .pick (.s [t, t, f, t, t]) (.c (.bool t)) (.s [t, f, f, f, f, f]), none⟩]) : CCode)) false true
def c11_o7 : CCode := (fun (f t : Bool) => (.trim [] (.ops [
  ⟨some [t, t], .move (.c (.bool f)), none⟩]) : CCode)) false true
def c11_o8 : CCode := (fun (f t : Bool) => (.trim [[], [f], [f, f, f], [f, t, f], [t, t, f], [f, f, t], [t, f, t], [f, t, t], [t, t, t], [f, f, f, f]] (.ops [
  ⟨some [t, t, f, f, f, f], .move (.s [f, f, f, f]), none⟩,
  ⟨some [f, f, t, f, f, f], .un .not (.s [t, t, f, f, f, f]), none⟩,
  ⟨some [t, f, t, f, f, f], .move (.s [f, f, t, f, f, f]), none⟩,
  ⟨some [f, t, t, f, f, f], .move (.s []), some ([t, f, t, f, f, f], f)⟩,
  ⟨some [t, t, t, f, f, f], .move (.s [f]), some ([t, f, t, f, f, f], f)⟩,
  ⟨some [f, f, f, t, f, f], .call f (.c (.func 18 [])) [(.s [f, t, t, f, f, f]), (.s [t, t, t, f, f, f])], some ([t, f, t, f, f, f], f)⟩,
  ⟨some [t, f, f, t, f, f], .un .not (.s [f, f, f, t, f, f]), some ([t, f, t, f, f, f], f)⟩,
  ⟨some [f, t, f, t, f, f], .pick (.s [t, f, t, f, f, f]) (.c (.bool t)) (.s [t, f, f, t, f, f]), none⟩]) : CCode)) false true
def c11_o9 : CCode := (fun (f t : Bool) => (.trim [[f, t, f], [t, t, f], [f, f, t], [t, f, t], [f, t, t], [t, t, t]] (.ops [
  ⟨some [t, t, f, t, f, f], .load (some 2) (.s [f, t, f]), none⟩,
  ⟨some [f, f, t, t, f, f], .build [.int .i64 0, .int .i64 0] [], none⟩,
  ⟨some [t, f, t, t, f, f], .eqa [.i .i64, .i .i64] f (.s [t, t, f, t, f, f]) (.s [f, f, t, t, f, f]), none⟩,
  ⟨some [f, t, t, t, f, f], .move (.s [t, f, t, t, f, f]), none⟩,
  ⟨some [t, t, t, t, f, f], .load (some 2) (.s [t, t, f]), some ([f, t, t, t, f, f], t)⟩,
  ⟨some [f, f, f, f, t, f], .build [.int .i64 0, .int .i64 0] [], some ([f, t, t, t, f, f], t)⟩,
  ⟨some [t, f, f, f, t, f], .eqa [.i .i64, .i .i64] f (.s [t, t, t, t, f, f]) (.s [f, f, f, f, t, f]), some ([f, t, t, t, f, f], t)⟩,
  ⟨some [f, t, f, f, t, f], .pick (.s [f, t, t, t, f, f]) (.s [t, f, f, f, t, f]) (.c (.bool f)), none⟩,
  ⟨some [t, t, f, f, t, f], .move (.s [f, t, f, f, t, f]), none⟩,
  ⟨some [f, f, t, f, t, f], .move (.s [f, f, t]), some ([t, t, f, f, t, f], t)⟩,
  ⟨some [t, f, t, f, t, f], .bin .eql (.s [f, f, t, f, t, f]) (.c (.int .i64 2)), some ([t, t, f, f, t, f], t)⟩,
  ⟨some [f, t, t, f, t, f], .pick (.s [t, t, f, f, t, f]) (.s [t, f, t, f, t, f]) (.c (.bool f)), none⟩,
  ⟨some [t, t, t, f, t, f], .move (.s [f, t, t, f, t, f]), none⟩,
  ⟨some [f, f, f, t, t, f], .move (.s [t, f, t]), some ([t, t, t, f, t, f], t)⟩,
  ⟨some [t, f, f, t, t, f], .len 1 (.s [f, f, f, t, t, f]), some ([t, t, t, f, t, f], t)⟩,
  ⟨some [f, t, f, t, t, f], .bin .eql (.s [t, f, f, t, t, f]) (.c (.int .i64 0)), some ([t, t, t, f, t, f], t)⟩,
  ⟨some [t, t, f, t, t, f], .pick (.s [t, t, t, f, t, f]) (.s [f, t, f, t, t, f]) (.c (.bool f)), none⟩,
  ⟨some [f, f, t, t, t, f], .move (.s [t, t, f, t, t, f]), none⟩,
  ⟨some [t, f, t, t, t, f], .move (.s [f, t, t]), some ([f, f, t, t, t, f], t)⟩,
  ⟨some [f, t, t, t, t, f], .len 1 (.s [t, f, t, t, t, f]), some ([f, f, t, t, t, f], t)⟩,
  ⟨some [t, t, t, t, t, f], .bin .eql (.s [f, t, t, t, t, f]) (.c (.int .i64 0)), some ([f, f, t, t, t, f], t)⟩,
  ⟨some [f, f, f, f, f, t], .pick (.s [f, f, t, t, t, f]) (.s [t, t, t, t, t, f]) (.c (.bool f)), none⟩,
  ⟨some [t, f, f, f, f, t], .move (.s [f, f, f, f, f, t]), none⟩,
  ⟨some [f, t, f, f, f, t], .move (.s [t, t, t]), some ([t, f, f, f, f, t], t)⟩,
  ⟨some [t, t, f, f, f, t], .bin .eql (.s [f, t, f, f, f, t]) (.c (.int .i64 2)), some ([t, f, f, f, f, t], t)⟩,
  ⟨some [f, f, t, f, f, t], .pick (.s [t, f, f, f, f, t]) (.s [t, t, f, f, f, t]) (.c (.bool f)), none⟩,
  ⟨some [t, f, t, f, f, t], .move (.s [f, f, t, f, f, t]), none⟩,
  ⟨some [f, t, t, f, f, t], .call f (.c (.func 20 [])) [], some ([t, f, t, f, f, t], t)⟩,
  ⟨some [t, t, t, f, f, t], .pick (.s [t, f, t, f, f, t]) (.s [f, t, t, f, f, t]) (.c (.bool f)), none⟩,
  ⟨some [t, t], .move (.s [t, t, t, f, f, t]), none⟩]) : CCode)) false true
def c11_o10 : CCode := (fun (f t : Bool) => (.trim [[], [f], [f, f, f], [f, t, f], [t, t, f], [f, f, t], [t, f, t], [f, t, t], [t, t, t]] (.ops [
  ⟨some [f, f, f, t, f, t], .move (.s []), none⟩,
  ⟨some [t, f, f, t, f, t], .move (.s [f]), none⟩,
  ⟨some [f, t, f, t, f, t], .call f (.c (.func 29 [])) [(.s [f, f, f, t, f, t]), (.s [t, f, f, t, f, t])], none⟩,
  ⟨some [t, f, f, f], .move (.s [f, t, f, t, f, t]), none⟩]) : CCode)) false true
def c11_o11 : CCode := (fun (f t : Bool) => (.trim [[], [f], [f, f, f], [f, t, f], [t, t, f], [f, f, t], [t, f, t], [f, t, t], [t, t, t], [t, f, f, f]] (.ops [
  ⟨some [f, f, t, t, f, t], .move (.s []), none⟩,
  ⟨some [t, f, t, t, f, t], .move (.s [f]), none⟩,
  ⟨some [f, t, t, t, f, t], .load (some 2) (.s [f, f, f]), none⟩,
  ⟨some [t, t, t, t, f, t], .call f (.c (.func 41 [])) [(.s [f, f, t, t, f, t]), (.s [t, f, t, t, f, t]), (.s [f, t, t, t, f, t])], none⟩,
  ⟨some [t, t, f, t, f, t], .move (.s [t, t, t, t, f, t]), none⟩,
  ⟨some [f, f, f, f, t, t], .extract 0 (.s [t, t, f, t, f, t]), none⟩,
  ⟨some [t, f, f, f, t, t], .extract 1 (.s [t, t, f, t, f, t]), none⟩,
  ⟨some [f, t, f, f], .move (.s [f, f, f, f, t, t]), none⟩,
  ⟨some [t, t, f, f], .move (.s [t, f, f, f, t, t]), none⟩]) : CCode)) false true
def c11_o12 : CCode := (fun (f t : Bool) => (.trim [[], [f], [f, f, f], [f, t, f], [t, t, f], [f, f, t], [t, f, t], [f, t, t], [t, t, t], [t, f, f, f], [f, t, f, f], [t, t, f, f]] (.ops [
  ⟨some [t, t, f, f, t, t], .move (.s []), none⟩,
  ⟨some [f, f, t, f, t, t], .move (.s [f]), none⟩,
  ⟨some [t, f, t, f, t, t], .load (some 2) (.s [f, f, f]), none⟩,
  ⟨some [f, t, t, f, t, t], .call f (.c (.func 42 [])) [(.s [t, t, f, f, t, t]), (.s [f, f, t, f, t, t]), (.s [t, f, t, f, t, t])], none⟩,
  ⟨some [f, t, f, f, t, t], .move (.s [f, t, t, f, t, t]), none⟩,
  ⟨some [t, t, t, f, t, t], .extract 0 (.s [f, t, f, f, t, t]), none⟩,
  ⟨some [f, f, f, t, t, t], .extract 1 (.s [f, t, f, f, t, t]), none⟩,
  ⟨some [f, f, t, f], .move (.s [t, t, t, f, t, t]), none⟩,
  ⟨some [t, f, t, f], .move (.s [f, f, f, t, t, t]), none⟩]) : CCode)) false true
def c11_o13 : CCode := (fun (f t : Bool) => (.trim [[f, t, f], [t, t, f], [f, f, t], [t, f, t], [f, t, t], [t, t, t], [t, f, f, f], [f, t, f, f], [t, t, f, f], [f, f, t, f], [t, f, t, f]] (.draw 0 [
  ⟨some [t, f, f, t, t, t], .load (some 2) (.s [f, t, f]), none⟩,
  ⟨some [f, t, f, t, t, t], .move (.s [f, t, f, f]), none⟩,
  ⟨some [t, t, f, t, t, t], .move (.s [t, f, f, f]), none⟩,
  ⟨some [f, f, t, t, t, t], .call f (.c (.func 25 [])) [(.s [f, t, f, t, t, t]), (.s [t, t, f, t, t, t])], none⟩,
  ⟨some [t, f, t, t, t, t], .eqa [.i .i64, .i .i64] t (.s [t, f, f, t, t, t]) (.s [f, f, t, t, t, t]), none⟩,
  ⟨some [f, t, t, t, t, t], .move (.s [t, f, t, t, t, t]), none⟩,
  ⟨some [t, t, t, t, t, t], .load (some 2) (.s [t, t, f]), some ([f, t, t, t, t, t], f)⟩,
  ⟨some [f, f, f, f, f, f, f], .move (.s [t, t, f, f]), some ([f, t, t, t, t, t], f)⟩,
  ⟨some [t, f, f, f, f, f, f], .move (.s [t, f, f, f]), some ([f, t, t, t, t, t], f)⟩,
  ⟨some [f, t, f, f, f, f, f], .call f (.c (.func 25 [])) [(.s [f, f, f, f, f, f, f]), (.s [t, f, f, f, f, f, f])], some ([f, t, t, t, t, t], f)⟩,
  ⟨some [t, t, f, f, f, f, f], .eqa [.i .i64, .i .i64] t (.s [t, t, t, t, t, t]) (.s [f, t, f, f, f, f, f]), some ([f, t, t, t, t, t], f)⟩,
  ⟨some [f, f, t, f, f, f, f], .pick (.s [f, t, t, t, t, t]) (.c (.bool t)) (.s [t, t, f, f, f, f, f]), none⟩,
  ⟨some [t, f, t, f, f, f, f], .move (.s [f, f, t, f, f, f, f]), none⟩,
  ⟨some [f, t, t, f, f, f, f], .move (.s [f, f, t]), some ([t, f, t, f, f, f, f], f)⟩,
  ⟨some [t, t, t, f, f, f, f], .bin .neq (.s [f, t, t, f, f, f, f]) (.c (.int .i64 0)), some ([t, f, t, f, f, f, f], f)⟩,
  ⟨some [f, f, f, t, f, f, f], .pick (.s [t, f, t, f, f, f, f]) (.c (.bool t)) (.s [t, t, t, f, f, f, f]), none⟩,
  ⟨some [t, f, f, t, f, f, f], .move (.s [f, f, f, t, f, f, f]), none⟩,
  ⟨some [f, t, f, t, f, f, f], .move (.s [t, t, t]), some ([t, f, f, t, f, f, f], f)⟩,
  ⟨some [t, t, f, t, f, f, f], .bin .neq (.s [f, t, f, t, f, f, f]) (.c (.int .i64 0)), some ([t, f, f, t, f, f, f], f)⟩,
  ⟨some [f, f, t, t, f, f, f], .pick (.s [t, f, f, t, f, f, f]) (.c (.bool t)) (.s [t, t, f, t, f, f, f]), none⟩,
  ⟨some [t, f, t, t, f, f, f], .move (.s [f, f, t, t, f, f, f]), none⟩,
  ⟨some [f, t, t, t, f, f, f], .move (.s [t, f, t]), some ([t, f, t, t, f, f, f], f)⟩,
  ⟨some [t, t, t, t, f, f, f], .len 1 (.s [f, t, t, t, f, f, f]), some ([t, f, t, t, f, f, f], f)⟩,
  ⟨some [f, f, f, f, t, f, f], .move (.s [f, f, t, f]), some ([t, f, t, t, f, f, f], f)⟩,
  ⟨some [t, f, f, f, t, f, f], .len 1 (.s [f, f, f, f, t, f, f]), some ([t, f, t, t, f, f, f], f)⟩,
  ⟨some [f, t, f, f, t, f, f], .bin .neq (.s [t, t, t, t, f, f, f]) (.s [t, f, f, f, t, f, f]), some ([t, f, t, t, f, f, f], f)⟩,
  ⟨some [t, t, f, f, t, f, f], .pick (.s [t, f, t, t, f, f, f]) (.c (.bool t)) (.s [f, t, f, f, t, f, f]), none⟩,
  ⟨some [f, f, t, f, t, f, f], .move (.s [t, t, f, f, t, f, f]), none⟩,
  ⟨some [t, f, t, f, t, f, f], .move (.s [f, t, t]), some ([f, f, t, f, t, f, f], f)⟩,
  ⟨some [f, t, t, f, t, f, f], .len 1 (.s [t, f, t, f, t, f, f]), some ([f, f, t, f, t, f, f], f)⟩,
  ⟨some [t, t, t, f, t, f, f], .move (.s [t, f, t, f]), some ([f, f, t, f, t, f, f], f)⟩,
  ⟨some [f, f, f, t, t, f, f], .len 1 (.s [t, t, t, f, t, f, f]), some ([f, f, t, f, t, f, f], f)⟩,
  ⟨some [t, f, f, t, t, f, f], .bin .neq (.s [f, t, t, f, t, f, f]) (.s [f, f, f, t, t, f, f]), some ([f, f, t, f, t, f, f], f)⟩,
  ⟨some [f, t, f, t, t, f, f], .pick (.s [f, f, t, f, t, f, f]) (.c (.bool t)) (.s [t, f, f, t, t, f, f]), none⟩]
  [(0, 3), (6, 9), (22, 24), (29, 31)] [[], [], [], [1, 2], [0, 1, 2, 3], (r 5), (r 6), (r 6), (r 6), (r 6 ++ [7, 8]), (r 10), (r 11), (r 12), (r 13), (r 14), (r 15), (r 16), (r 17), (r 18), (r 19), (r 20), (r 21), (r 22), (r 21), (r 21 ++ [23]), (r 25), (r 26), (r 27), (r 28), (r 29), (r 28), (r 28 ++ [30]), (r 32), (r 33)]) : CCode)) false true
def c11_o14 : CCode := (fun (f t : Bool) => (.trim [] (.ops [
  ⟨some [t, t], .move (.c (.bool f)), none⟩]) : CCode)) false true
def c11_o15 : CCode := (fun (f t : Bool) => (.trim [[t, f, t], [f, t, t], [t, f, f, f], [f, f, t, f], [t, f, t, f]] (.ops [
  ⟨some [f, t, t, f], .move (.c (.int .i64 0)), none⟩]) : CCode)) false true
def c11_o16 : CCode := (fun (f t : Bool) => (.trim [[t, f, t], [f, t, t], [t, f, f, f], [f, f, t, f], [t, f, t, f], [f, t, t, f]] (.ops [
  ⟨some [t, t, f, t, t, f, f], .move (.s [f, t, t, f]), none⟩,
  ⟨some [f, f, t, t, t, f, f], .move (.s [f, f, t, f]), none⟩,
  ⟨some [t, f, t, t, t, f, f], .len 1 (.s [f, f, t, t, t, f, f]), none⟩,
  ⟨some [f, t, t, t, t, f, f], .bin .lss (.s [t, t, f, t, t, f, f]) (.s [t, f, t, t, t, f, f]), none⟩]) : CCode)) false true
def c11_o17 : CCode := (fun (f t : Bool) => (.trim [[t, f, t], [f, t, t], [t, f, f, f], [f, f, t, f], [t, f, t, f], [f, t, t, f]] (.draw 0 [
  ⟨some [t, f, f, f, f, t, f], .move (.s [t, f, t]), none⟩,
  ⟨some [f, t, f, f, f, t, f], .move (.s [f, t, t, f]), none⟩,
  ⟨some [t, t, f, f, f, t, f], .idxSl 2 (.s [t, f, f, f, f, t, f]) (.s [f, t, f, f, f, t, f]), none⟩,
  ⟨some [f, f, t, f, f, t, f], .load (some 2) (.s [t, t, f, f, f, t, f]), none⟩,
  ⟨some [t, f, t, f, f, t, f], .move (.s [f, f, t, f]), none⟩,
  ⟨some [f, t, t, f, f, t, f], .move (.s [f, t, t, f]), none⟩,
  ⟨some [t, t, t, f, f, t, f], .idxSl 1 (.s [t, f, t, f, f, t, f]) (.s [f, t, t, f, f, t, f]), none⟩,
  ⟨some [f, f, f, t, f, t, f], .load none (.s [t, t, t, f, f, t, f]), none⟩,
  ⟨some [t, f, f, t, f, t, f], .move (.s [t, f, f, f]), none⟩,
  ⟨some [f, t, f, t, f, t, f], .call f (.c (.func 25 [])) [(.s [f, f, f, t, f, t, f]), (.s [t, f, f, t, f, t, f])], none⟩,
  ⟨some [t, t, f, t, f, t, f], .eqa [.i .i64, .i .i64] t (.s [f, f, t, f, f, t, f]) (.s [f, t, f, t, f, t, f]), none⟩,
  ⟨some [f, f, t, t, f, t, f], .move (.s [t, t, f, t, f, t, f]), none⟩,
  ⟨some [t, f, t, t, f, t, f], .move (.s [f, t, t]), some ([f, f, t, t, f, t, f], f)⟩,
  ⟨some [f, t, t, t, f, t, f], .move (.s [f, t, t, f]), some ([f, f, t, t, f, t, f], f)⟩,
  ⟨some [t, t, t, t, f, t, f], .idxSl 2 (.s [t, f, t, t, f, t, f]) (.s [f, t, t, t, f, t, f]), some ([f, f, t, t, f, t, f], f)⟩,
  ⟨some [f, f, f, f, t, t, f], .load (some 2) (.s [t, t, t, t, f, t, f]), some ([f, f, t, t, f, t, f], f)⟩,
  ⟨some [t, f, f, f, t, t, f], .move (.s [t, f, t, f]), some ([f, f, t, t, f, t, f], f)⟩,
  ⟨some [f, t, f, f, t, t, f], .move (.s [f, t, t, f]), some ([f, f, t, t, f, t, f], f)⟩,
  ⟨some [t, t, f, f, t, t, f], .idxSl 1 (.s [t, f, f, f, t, t, f]) (.s [f, t, f, f, t, t, f]), some ([f, f, t, t, f, t, f], f)⟩,
  ⟨some [f, f, t, f, t, t, f], .load none (.s [t, t, f, f, t, t, f]), some ([f, f, t, t, f, t, f], f)⟩,
  ⟨some [t, f, t, f, t, t, f], .move (.s [t, f, f, f]), some ([f, f, t, t, f, t, f], f)⟩,
  ⟨some [f, t, t, f, t, t, f], .call f (.c (.func 25 [])) [(.s [f, f, t, f, t, t, f]), (.s [t, f, t, f, t, t, f])], some ([f, f, t, t, f, t, f], f)⟩,
  ⟨some [t, t, t, f, t, t, f], .eqa [.i .i64, .i .i64] t (.s [f, f, f, f, t, t, f]) (.s [f, t, t, f, t, t, f]), some ([f, f, t, t, f, t, f], f)⟩,
  ⟨some [f, f, f, t, t, t, f], .pick (.s [f, f, t, t, f, t, f]) (.c (.bool t)) (.s [t, t, t, f, t, t, f]), none⟩]
  [(3, 7), (3, 9), (15, 19), (15, 21)] [[], [], [0, 1], [0, 1, 2], [], [], [4, 5], [4, 5, 6], [], [4, 5, 6, 7, 8], (r 10), (r 11), (r 12), (r 12), (r 14), (r 15), (r 12), (r 12), (r 12 ++ [16, 17]), (r 12 ++ [16, 17, 18]), (r 12), (r 12 ++ [16, 17, 18, 19, 20]), (r 22), (r 23)]) : CCode)) false true
def c11_o18 : CCode := (fun (f t : Bool) => (.trim [] (.ops [
  ⟨some [t, t], .move (.c (.bool f)), none⟩]) : CCode)) false true
def c11_o19 : CCode := (fun (f t : Bool) => (.trim [[t, f, t], [f, t, t], [t, f, f, f], [f, f, t, f], [t, f, t, f], [f, t, t, f]] (.ops [
  ⟨some [t, t, t, t, t, f, f], .move (.s [f, t, t, f]), none⟩,
  ⟨some [f, f, f, f, f, t, f], .bin .add (.s [t, t, t, t, t, f, f]) (.c (.int .i64 1)), none⟩,
  ⟨some [f, t, t, f], .move (.s [f, f, f, f, f, t, f]), none⟩]) : CCode)) false true
def c11_b0 : CCode := (fun (f t : Bool) => ((.seq (.seq c11_o16
 (.cond (.s [f, t, t, t, t, f, f]) .skip (.exit 0)))
 (.seq (.block 1 (.seq c11_o17
 (.cond (.s [f, f, f, t, t, t, f]) (.seq c11_o18
 .ret) .skip)))
 c11_o19)) : CCode)) false true
def c11_l0 : CCode := (fun (f t : Bool) => (.loop [[t, f, t], [f, t, t], [t, f, f, f], [f, f, t, f], [t, f, t, f], [f, t, t, f]] c11_b0 : CCode)) false true
def c11_o20 : CCode := (fun (f t : Bool) => (.trim [] (.ops [
  ⟨some [t, f, f, t, t, t, f], .call f (.c (.func 20 [])) [], none⟩,
  ⟨some [t, t], .move (.s [t, f, f, t, t, t, f]), none⟩]) : CCode)) false true
def c11 : CFunc := (fun (f t : Bool) => ({ params := [[], [f], [t]], results := [.slot [t, t]], shared := f, body := (.seq c11_o0
 (.seq c11_o1
 (.seq c11_o2
 (.seq c11_o3
 (.seq c11_o4
 (.seq c11_o5
 (.seq (.seq c11_o6
 (.cond (.s [f, t, f, f, f, f]) (.seq c11_o7
 .ret) .skip))
 (.seq (.seq c11_o8
 (.cond (.s [f, t, f, t, f, f]) (.seq c11_o9
 .ret) .skip))
 (.seq c11_o10
 (.seq c11_o11
 (.seq c11_o12
 (.seq (.seq c11_o13
 (.cond (.s [f, t, f, t, t, f, f]) (.seq c11_o14
 .ret) .skip))
 (.seq (.seq c11_o15
 (.block 0 c11_l0))
 (.seq c11_o20
 .ret)))))))))))))) } : CFunc)) false true
-- numnah/sample.Plan
-- c17_o0: 0=[] 1=[f] 2=[t] 3=[f, f] 4=[t, f]
-- c17_o1: 0=[] 1=[f] 2=[t] 8=[t, f, f] 9=[f, t, f]
-- c17_o2: 
-- c17_o3: 0=[] 1=[f] 2=[t] 8=[t, f, f] 9=[f, t, f]
-- c17_o4: 0=[] 1=[f] 2=[t] 8=[t, f, f] 9=[f, t, f] 13=[f, t, t]
-- c17_o5: 0=[] 1=[f] 2=[t] 8=[t, f, f] 9=[f, t, f] 13=[f, t, t] 14=[t, t, t]
-- c17_o6: 0=[] 1=[f] 2=[t] 8=[t, f, f] 9=[f, t, f] 13=[f, t, t] 14=[t, t, t] 15=[f, f, f, f]
-- c17_o7: 0=[] 1=[f] 2=[t] 8=[t, f, f] 9=[f, t, f] 13=[f, t, t] 14=[t, t, t] 15=[f, f, f, f]
-- c17_o8: 0=[] 1=[f] 2=[t] 8=[t, f, f] 9=[f, t, f] 13=[f, t, t] 14=[t, t, t] 15=[f, f, f, f] 43=[f, f, t, t, f] 44=[t, f, t, t, f]
-- c17_o9: 0=[] 1=[f] 2=[t] 8=[t, f, f] 9=[f, t, f] 13=[f, t, t] 14=[t, t, t] 15=[f, f, f, f] 43=[f, f, t, t, f] 44=[t, f, t, t, f]
-- c17_o10: 0=[] 1=[f] 2=[t] 8=[t, f, f] 9=[f, t, f] 13=[f, t, t] 14=[t, t, t] 15=[f, f, f, f] 16=[t, f, f, f] 43=[f, f, t, t, f] 44=[t, f, t, t, f]
-- c17_o11: 14=[t, t, t] 15=[f, f, f, f] 16=[t, f, f, f]
-- c17_o12: 0=[] 1=[f] 2=[t] 8=[t, f, f] 9=[f, t, f] 13=[f, t, t] 14=[t, t, t] 15=[f, f, f, f] 43=[f, f, t, t, f] 44=[t, f, t, t, f]
-- c17_l0: live slots [0, 1, 2, 8, 9, 13, 14, 15, 43, 44]
-- c17_o13: 0=[] 1=[f] 2=[t] 8=[t, f, f] 9=[f, t, f] 13=[f, t, t] 14=[t, t, t] 15=[f, f, f, f]
-- c17_l1: live slots [0, 1, 2, 8, 9, 13, 14, 15]
-- c17_o14: 14=[t, t, t]
-- c17_o15: 
-- c17_o16: 14=[t, t, t]
def c17_o0 : CCode := (fun (f t : Bool) => (.trim [[], [f], [t], [f, f], [t, f]] (.ops [
  ⟨some [t, f, f], .box none (.s [f, f]), none⟩,
  ⟨some [f, t, f], .box none (.s [t, f]), none⟩,
  ⟨some [t, t, f], .move (.c (.int .i64 0)), none⟩,
  ⟨some [f, f, t], .move (.c (.int .i64 0)), none⟩,
  ⟨some [t, f, t], .move (.c (.int .i64 0)), none⟩]) : CCode)) false true
def c17_o1 : CCode := (fun (f t : Bool) => (.trim [[], [f], [t], [t, f, f], [f, t, f]] (.ops [
  ⟨some [f, t, f, f], .move (.s []), none⟩,
  ⟨some [t, t, f, f], .move (.s [f]), none⟩,
  ⟨some [f, f, t, f], .call f (.c (.func 52 [])) [(.s [f, t, f, f]), (.s [t, t, f, f])], none⟩,
  ⟨some [t, f, t, f], .un .not (.s [f, f, t, f]), none⟩,
  ⟨some [f, t, t, f], .move (.s [t, f, t, f]), none⟩,
  ⟨some [t, t, t, f], .move (.s []), some ([f, t, t, f], f)⟩,
  ⟨some [f, f, f, t], .move (.s [t]), some ([f, t, t, f], f)⟩,
  ⟨some [t, f, f, t], .call f (.c (.func 52 [])) [(.s [t, t, t, f]), (.s [f, f, f, t])], some ([f, t, t, f], f)⟩,
  ⟨some [f, t, f, t], .un .not (.s [t, f, f, t]), some ([f, t, t, f], f)⟩,
  ⟨some [t, t, f, t], .pick (.s [f, t, t, f]) (.c (.bool t)) (.s [f, t, f, t]), none⟩,
  ⟨some [f, f, t, t], .move (.s [t, t, f, t]), none⟩,
  ⟨some [t, f, t, t], .load (some 2) (.s [t, f, f]), some ([f, f, t, t], f)⟩,
  ⟨some [f, t, t, t], .call f (.c (.func 53 [])) [(.s [t, f, t, t])], some ([f, f, t, t], f)⟩,
  ⟨some [t, t, t, t], .un .not (.s [f, t, t, t]), some ([f, f, t, t], f)⟩,
  ⟨some [f, f, f, f, f], .pick (.s [f, f, t, t]) (.c (.bool t)) (.s [t, t, t, t]), none⟩,
  ⟨some [t, f, f, f, f], .move (.s [f, f, f, f, f]), none⟩,
  ⟨some [f, t, f, f, f], .load (some 2) (.s [f, t, f]), some ([t, f, f, f, f], f)⟩,
  ⟨some [t, t, f, f, f], .call f (.c (.func 53 [])) [(.s [f, t, f, f, f])], some ([t, f, f, f, f], f)⟩,
  ⟨some [f, f, t, f, f], .un .not (.s [t, t, f, f, f]), some ([t, f, f, f, f], f)⟩,
  ⟨some [t, f, t, f, f], .pick (.s [t, f, f, f, f]) (.c (.bool t)) (.s [f, f, t, f, f]), none⟩]) : CCode)) false true
def c17_o2 : CCode := (fun (f t : Bool) => (.trim [] (.ops [
  ⟨some [t, t, f], .move (.c (.int .i64 0)), none⟩,
  ⟨some [f, f, t], .move (.c (.int .i64 0)), none⟩,
  ⟨some [t, f, t], .move (.c (.int .i64 2)), none⟩]) : CCode)) false true
def c17_o3 : CCode := (fun (f t : Bool) => (.trim [[], [f], [t], [t, f, f], [f, t, f]] (.ops [
  ⟨some [f, t, t, f, f], .call f (.c (.func 54 [])) [], none⟩,
  ⟨some [f, t, t], .move (.s [f, t, t, f, f]), none⟩]) : CCode)) false true
def c17_o4 : CCode := (fun (f t : Bool) => (.trim [[], [f], [t], [t, f, f], [f, t, f], [f, t, t]] (.ops [
  ⟨some [t, t, t], .alloc none [.int .i64 0, .int .i64 0], none⟩]) : CCode)) false true
def c17_o5 : CCode := (fun (f t : Bool) => (.trim [[], [f], [t], [t, f, f], [f, t, f], [f, t, t], [t, t, t]] (.ops [
  ⟨some [f, f, f, f], .move (.c (.int .i64 1)), none⟩]) : CCode)) false true
def c17_o6 : CCode := (fun (f t : Bool) => (.trim [[], [f], [t], [t, f, f], [f, t, f], [f, t, t], [t, t, t], [f, f, f, f]] (.ops [
  ⟨some [t, t, t, f, f], .move (.s [f, f, f, f]), none⟩,
  ⟨some [f, f, f, t, f], .move (.s []), none⟩,
  ⟨some [t, f, f, t, f], .bin .leq (.s [t, t, t, f, f]) (.s [f, f, f, t, f]), none⟩]) : CCode)) false true
def c17_o7 : CCode := (fun (f t : Bool) => (.trim [[], [f], [t], [t, f, f], [f, t, f], [f, t, t], [t, t, t], [f, f, f, f]] (.ops [
  ⟨some [f, f, t, t, f], .move (.s [f, f, f, f]), none⟩,
  ⟨some [t, f, t, t, f], .move (.c (.int .i64 0)), none⟩]) : CCode)) false true
def c17_o8 : CCode := (fun (f t : Bool) => (.trim [[], [f], [t], [t, f, f], [f, t, f], [f, t, t], [t, t, t], [f, f, f, f], [f, f, t, t, f], [t, f, t, t, f]] (.ops [
  ⟨some [f, t, t, t, f], .bin .lss (.s [t, f, t, t, f]) (.s [f, f, t, t, f]), none⟩]) : CCode)) false true
def c17_o9 : CCode := (fun (f t : Bool) => (.trim [[], [f], [t], [t, f, f], [f, t, f], [f, t, t], [t, t, t], [f, f, f, f], [f, f, t, t, f], [t, f, t, t, f]] (.ops [
  ⟨some [t, t, t, t, f], .move (.s [t, f, t, t, f]), none⟩,
  ⟨some [t, f, f, f], .move (.s [t, t, t, t, f]), none⟩]) : CCode)) false true
def c17_o10 : CCode := (fun (f t : Bool) => (.trim [[], [f], [t], [t, f, f], [f, t, f], [f, t, t], [t, t, t], [f, f, f, f], [t, f, f, f], [f, f, t, t, f], [t, f, t, t, f]] (.draw 0 [
  ⟨some [f, f, f, f, t], .move (.s [f, t, t]), none⟩,
  ⟨some [t, f, f, f, t], .move (.s []), none⟩,
  ⟨some [f, t, f, f, t], .move (.s [f]), none⟩,
  ⟨some [t, t, f, f, t], .move (.s [f, f, f, f]), none⟩,
  ⟨some [f, f, t, f, t], .move (.s [t, f, f, f]), none⟩,
  ⟨some [t, f, t, f, t], .call f (.c (.func 57 [])) [(.s [f, f, f, f, t]), (.s [t, f, f, f, t]), (.s [f, t, f, f, t]), (.s [t, t, f, f, t]), (.s [f, f, t, f, t])], none⟩,
  ⟨some [f, t, t, f, t], .move (.s [f, t, t]), none⟩,
  ⟨some [t, t, t, f, t], .move (.s []), none⟩,
  ⟨some [f, f, f, t, t], .move (.s [f]), none⟩,
  ⟨some [t, f, f, t, t], .call f (.c (.func 58 [])) [(.s [f, t, t, f, t]), (.s [t, t, t, f, t]), (.s [f, f, f, t, t])], none⟩,
  ⟨some [f, t, f, t, t], .call f (.c (.func 56 [])) [(.s [t, f, t, f, t]), (.s [t, f, f, t, t])], none⟩,
  ⟨some [t, t, f, t, t], .load (some 2) (.s [t, f, f]), none⟩,
  ⟨some [f, f, t, t, t], .call f (.c (.func 55 [])) [(.s [f, t, f, t, t]), (.s [t, t, f, t, t])], none⟩,
  ⟨some [t, f, t, t, t], .bin .geq (.s [f, f, t, t, t]) (.c (.int .i64 0)), none⟩,
  ⟨some [f, t, t, t, t], .move (.s [t, f, t, t, t]), none⟩,
  ⟨some [t, t, t, t, t], .move (.s [f, t, t]), some ([f, t, t, t, t], t)⟩,
  ⟨some [f, f, f, f, f, f], .move (.s []), some ([f, t, t, t, t], t)⟩,
  ⟨some [t, f, f, f, f, f], .move (.s [t]), some ([f, t, t, t, t], t)⟩,
  ⟨some [f, t, f, f, f, f], .move (.s [f, f, f, f]), some ([f, t, t, t, t], t)⟩,
  ⟨some [t, t, f, f, f, f], .move (.s [t, f, f, f]), some ([f, t, t, t, t], t)⟩,
  ⟨some [f, f, t, f, f, f], .call f (.c (.func 57 [])) [(.s [t, t, t, t, t]), (.s [f, f, f, f, f, f]), (.s [t, f, f, f, f, f]), (.s [f, t, f, f, f, f]), (.s [t, t, f, f, f, f])], some ([f, t, t, t, t], t)⟩,
  ⟨some [t, f, t, f, f, f], .move (.s [f, t, t]), some ([f, t, t, t, t], t)⟩,
  ⟨some [f, t, t, f, f, f], .move (.s []), some ([f, t, t, t, t], t)⟩,
  ⟨some [t, t, t, f, f, f], .move (.s [t]), some ([f, t, t, t, t], t)⟩,
  ⟨some [f, f, f, t, f, f], .call f (.c (.func 58 [])) [(.s [t, f, t, f, f, f]), (.s [f, t, t, f, f, f]), (.s [t, t, t, f, f, f])], some ([f, t, t, t, t], t)⟩,
  ⟨some [t, f, f, t, f, f], .call f (.c (.func 56 [])) [(.s [f, f, t, f, f, f]), (.s [f, f, f, t, f, f])], some ([f, t, t, t, t], t)⟩,
  ⟨some [f, t, f, t, f, f], .load (some 2) (.s [f, t, f]), some ([f, t, t, t, t], t)⟩,
  ⟨some [t, t, f, t, f, f], .call f (.c (.func 55 [])) [(.s [t, f, f, t, f, f]), (.s [f, t, f, t, f, f])], some ([f, t, t, t, t], t)⟩,
  ⟨some [f, f, t, t, f, f], .bin .leq (.s [t, t, f, t, f, f]) (.c (.int .i64 0)), some ([f, t, t, t, t], t)⟩,
  ⟨some [t, f, t, t, f, f], .pick (.s [f, t, t, t, t]) (.s [f, f, t, t, f, f]) (.c (.bool f)), none⟩]
  [(5, 11), (9, 11), (10, 11), (20, 26), (24, 26), (25, 26)] [[], [], [], [], [], (r 5), [], [], [], (r 9), (r 10), [], (r 12), (r 13), (r 14), (r 15), (r 15), (r 15), (r 15), (r 15), (r 20), (r 15), (r 15), (r 15), (r 24), (r 25), (r 15), (r 27), (r 28), (r 29)]) : CCode)) false true
def c17_o11 : CCode := (fun (f t : Bool) => (.trim [[t, t, t], [f, f, f, f], [t, f, f, f]] (.ops [
  ⟨some [f, t, t, t, f, f], .move (.s [f, f, f, f]), none⟩,
  ⟨some [t, t, t, t, f, f], .move (.s [t, f, f, f]), none⟩,
  ⟨some [f, f, f, f, t, f], .build [.int .i64 0, .int .i64 0] [(0, 1, (.s [f, t, t, t, f, f])), (1, 1, (.s [t, t, t, t, f, f]))], none⟩,
  ⟨none, .store 2 (.s [t, t, t]) (.s [f, f, f, f, t, f]), none⟩]) : CCode)) false true
def c17_o12 : CCode := (fun (f t : Bool) => (.trim [[], [f], [t], [t, f, f], [f, t, f], [f, t, t], [t, t, t], [f, f, f, f], [f, f, t, t, f], [t, f, t, t, f]] (.ops [
  ⟨some [t, f, f, f, t, f], .bin .add (.s [t, f, t, t, f]) (.c (.int .i64 1)), none⟩,
  ⟨some [t, f, t, t, f], .move (.s [t, f, f, f, t, f]), none⟩]) : CCode)) false true
def c17_b0 : CCode := (fun (f t : Bool) => ((.seq c17_o8
 (.seq (.cond (.s [f, t, t, t, f]) .skip (.exit 2))
 (.seq (.block 3 (.seq c17_o9
 (.seq c17_o10
 (.cond (.s [t, f, t, t, f, f]) (.seq c17_o11
 (.exit 0)) .skip))))
 c17_o12))) : CCode)) false true
def c17_l0 : CCode := (fun (f t : Bool) => (.loop [[], [f], [t], [t, f, f], [f, t, f], [f, t, t], [t, t, t], [f, f, f, f], [f, f, t, t, f], [t, f, t, t, f]] c17_b0 : CCode)) false true
def c17_o13 : CCode := (fun (f t : Bool) => (.trim [[], [f], [t], [t, f, f], [f, t, f], [f, t, t], [t, t, t], [f, f, f, f]] (.ops [
  ⟨some [f, t, f, t, f], .move (.s [f, f, f, f]), none⟩,
  ⟨some [t, t, f, t, f], .bin .add (.s [f, t, f, t, f]) (.c (.int .i64 1)), none⟩,
  ⟨some [f, f, f, f], .move (.s [t, t, f, t, f]), none⟩]) : CCode)) false true
def c17_b1 : CCode := (fun (f t : Bool) => ((.seq (.seq c17_o6
 (.cond (.s [t, f, f, t, f]) .skip (.exit 0)))
 (.seq (.block 1 (.seq c17_o7
 (.block 2 c17_l0)))
 c17_o13)) : CCode)) false true
def c17_l1 : CCode := (fun (f t : Bool) => (.loop [[], [f], [t], [t, f, f], [f, t, f], [f, t, t], [t, t, t], [f, f, f, f]] c17_b1 : CCode)) false true
def c17_o14 : CCode := (fun (f t : Bool) => (.trim [[t, t, t]] (.ops [
  ⟨some [f, t, f, f, t, f], .load (some 2) (.s [t, t, t]), none⟩,
  ⟨some [t, t, f, f, t, f], .build [.int .i64 0, .int .i64 0] [], none⟩,
  ⟨some [f, f, t, f, t, f], .eqa [.i .i64, .i .i64] f (.s [f, t, f, f, t, f]) (.s [t, t, f, f, t, f]), none⟩]) : CCode)) false true
def c17_o15 : CCode := (fun (f t : Bool) => (.trim [] (.ops [
  ⟨some [t, t, f], .move (.c (.int .i64 0)), none⟩,
  ⟨some [f, f, t], .move (.c (.int .i64 0)), none⟩,
  ⟨some [t, f, t], .move (.c (.int .i64 6)), none⟩]) : CCode)) false true
def c17_o16 : CCode := (fun (f t : Bool) => (.trim [[t, t, t]] (.draw 0 [
  ⟨some [t, f, t, f, t, f], .idxArr 2 1 (.s [t, t, t]) (.c (.int .i64 0)), none⟩,
  ⟨some [f, t, t, f, t, f], .load none (.s [t, f, t, f, t, f]), none⟩,
  ⟨some [t, t, t, f, t, f], .idxArr 2 1 (.s [t, t, t]) (.c (.int .i64 1)), none⟩,
  ⟨some [f, f, f, t, t, f], .load none (.s [t, t, t, f, t, f]), none⟩,
  ⟨some [t, t, f], .move (.s [f, t, t, f, t, f]), none⟩,
  ⟨some [f, f, t], .move (.s [f, f, f, t, t, f]), none⟩,
  ⟨some [t, f, t], .move (.c (.int .i64 0)), none⟩]
  [(1, 3)] [[], [0], [], [2], [0, 1], (r 5), (r 6)]) : CCode)) false true
def c17 : CFunc := (fun (f t : Bool) => ({ params := [[], [f], [t], [f, f], [t, f]], results := [.slot [t, t, f], .slot [f, f, t], .slot [t, f, t]], shared := f, body := (.seq c17_o0
 (.scope (.seq (.seq c17_o1
 (.cond (.s [t, f, t, f, f]) (.seq c17_o2
 .ret) .skip))
 (.seq c17_o3
 (.seq c17_o4
 (.seq .skip
 (.seq (.seq c17_o5
 (.block 0 c17_l1))
 (.seq (.seq c17_o14
 (.cond (.s [f, f, t, f, t, f]) (.seq c17_o15
 .ret) .skip))
 (.seq c17_o16
 .ret))))))))) } : CFunc)) false true
-- numnah/numnahref05.Lot
def c18 : CFunc := (fun (f t : Bool) => ({ params := [[], [f]], results := [.slot [t, f]], shared := f, body := (.seq (.ops [
  ⟨some [t, f], .move (.c (.bool f)), none⟩])
 (.seq (.ops [
  ⟨some [f, t], .move (.s []), none⟩,
  ⟨some [t, t], .bin .geq (.s [f, t]) (.c (.int .i64 1)), none⟩,
  ⟨some [f, f, f], .move (.s [t, t]), none⟩,
  ⟨some [t, f, f], .move (.s []), some ([f, f, f], t)⟩,
  ⟨some [f, t, f], .bin .leq (.s [t, f, f]) (.c (.int .i64 36)), some ([f, f, f], t)⟩,
  ⟨some [t, t, f], .pick (.s [f, f, f]) (.s [f, t, f]) (.c (.bool f)), none⟩,
  ⟨some [f, f, t], .move (.s [t, t, f]), none⟩,
  ⟨some [t, f, t], .move (.s [f]), some ([f, f, t], t)⟩,
  ⟨some [f, t, t], .bin .geq (.s [t, f, t]) (.c (.int .i64 0)), some ([f, f, t], t)⟩,
  ⟨some [t, t, t], .pick (.s [f, f, t]) (.s [f, t, t]) (.c (.bool f)), none⟩,
  ⟨some [f, f, f, f], .move (.s [t, t, t]), none⟩,
  ⟨some [t, f, f, f], .move (.s [f]), some ([f, f, f, f], t)⟩,
  ⟨some [f, t, f, f], .move (.s []), some ([f, f, f, f], t)⟩,
  ⟨some [t, t, f, f], .bin .leq (.s [t, f, f, f]) (.s [f, t, f, f]), some ([f, f, f, f], t)⟩,
  ⟨some [f, f, t, f], .pick (.s [f, f, f, f]) (.s [t, t, f, f]) (.c (.bool f)), none⟩,
  ⟨some [t, f], .move (.s [f, f, t, f]), none⟩])
 .ret)) } : CFunc)) false true
-- numnah/numnahlaw05.awake
-- c20_o0: 
-- c20_o1: 
-- c20_o2: 1=[f] 2=[t]
-- c20_o3: 1=[f] 2=[t] 3=[f, f] 4=[t, f]
-- c20_o4: 1=[f] 2=[t] 3=[f, f] 4=[t, f] 5=[f, t] 6=[t, t] 7=[f, f, f]
-- c20_o5: 1=[f] 2=[t] 3=[f, f] 4=[t, f] 5=[f, t] 6=[t, t] 7=[f, f, f] 9=[f, t, f] 10=[t, t, f]
-- c20_o6: 
-- c20_o7: 
def c20_o0 : CCode := (fun (f t : Bool) => (.trim [] (.ops [
  ⟨some [], .move (.c (.bool f)), none⟩]) : CCode)) false true
def c20_o1 : CCode := (fun (f t : Bool) => (.trim [] (.ops [
  ⟨some [t, f, t], .call f (.c (.func 23 [])) [(.c (.int .i64 4)), (.c (.int .i64 2)), (.c (.int .i64 2)), (.c (.int .i64 0))], none⟩,
  ⟨some [f, f, t], .move (.s [t, f, t]), none⟩,
  ⟨some [f, t, t], .extract 0 (.s [f, f, t]), none⟩,
  ⟨some [t, t, t], .extract 1 (.s [f, f, t]), none⟩,
  ⟨some [f], .alloc none [.int .i64 0, .int .i64 0], none⟩,
  ⟨none, .store 2 (.s [f]) (.s [f, t, t]), none⟩,
  ⟨some [t], .move (.s [t, t, t]), none⟩]) : CCode)) false true
def c20_o2 : CCode := (fun (f t : Bool) => (.trim [[f], [t]] (.ops [
  ⟨some [t, f, f, f], .call f (.c (.func 32 [])) [(.c (.int .i64 4)), (.c (.int .i64 2)), (.c (.int .i64 0))], none⟩,
  ⟨some [f, f, f, f], .move (.s [t, f, f, f]), none⟩,
  ⟨some [f, t, f, f], .extract 0 (.s [f, f, f, f]), none⟩,
  ⟨some [t, t, f, f], .extract 1 (.s [f, f, f, f]), none⟩,
  ⟨some [f, f], .alloc none [.nils, .nils], none⟩,
  ⟨none, .store 2 (.s [f, f]) (.s [f, t, f, f]), none⟩,
  ⟨some [t, f], .move (.s [t, t, f, f]), none⟩]) : CCode)) false true
def c20_o3 : CCode := (fun (f t : Bool) => (.trim [[f], [t], [f, f], [t, f]] (.ops [
  ⟨some [t, f, t, f], .build [.int .i64 0, .int .i64 0] [(0, 1, (.c (.int .i64 1))), (1, 1, (.c (.int .i64 1)))], none⟩,
  ⟨some [f, t, t, f], .build [.int .i64 0, .int .i64 0] [(0, 1, (.c (.int .i64 1))), (1, 1, (.c (.int .i64 10)))], none⟩,
  ⟨some [t, t, t, f], .call f (.c (.func 17 [])) [(.c (.int .i64 10)), (.c (.int .i64 0)), (.c (.int .i64 5)), (.s [t, f, t, f]), (.s [f, t, t, f])], none⟩,
  ⟨some [f, f, t, f], .move (.s [t, t, t, f]), none⟩,
  ⟨some [f, f, f, t], .extract 0 (.s [f, f, t, f]), none⟩,
  ⟨some [t, f, f, t], .extract 1 (.s [f, f, t, f]), none⟩,
  ⟨some [f, t, f, t], .extract 2 (.s [f, f, t, f]), none⟩,
  ⟨some [f, t], .move (.s [f, f, f, t]), none⟩,
  ⟨some [t, t], .move (.s [t, f, f, t]), none⟩,
  ⟨some [f, f, f], .move (.s [f, t, f, t]), none⟩]) : CCode)) false true
def c20_o4 : CCode := (fun (f t : Bool) => (.trim [[f], [t], [f, f], [t, f], [f, t], [t, t], [f, f, f]] (.ops [
  ⟨some [f, f, t, t], .buildSlice none 1 2 [.int .i64 0, .int .i64 0] [(0, 1, (.c (.int .i64 (-1)))), (1, 1, (.c (.int .i64 0)))], none⟩,
  ⟨some [t, f, t, t], .buildSlice none 1 2 [.int .i64 0, .int .i64 0] [(0, 1, (.c (.int .i64 1))), (1, 1, (.c (.int .i64 1)))], none⟩,
  ⟨some [f, t, t, t], .build [.nils, .nils] [(0, 1, (.s [f, f, t, t])), (1, 1, (.s [t, f, t, t]))], none⟩,
  ⟨some [t, t, t, t], .call f (.c (.func 34 [])) [(.c (.int .i64 4)), (.c (.int .i64 2)), (.s [f, t, t, t])], none⟩,
  ⟨some [t, t, f, t], .move (.s [t, t, t, t]), none⟩,
  ⟨some [f, f, f, f, f], .extract 0 (.s [t, t, f, t]), none⟩,
  ⟨some [t, f, f, f, f], .extract 1 (.s [t, t, f, t]), none⟩,
  ⟨some [f, t, f, f, f], .extract 2 (.s [t, t, f, t]), none⟩,
  ⟨some [t, f, f], .alloc none [.int .i64 0, .int .i64 0], none⟩,
  ⟨some [f, t, f], .alloc none [.int .i64 0, .int .i64 0], none⟩,
  ⟨none, .store 2 (.s [t, f, f]) (.s [f, f, f, f, f]), none⟩,
  ⟨none, .store 2 (.s [f, t, f]) (.s [t, f, f, f, f]), none⟩,
  ⟨some [t, t, f], .move (.s [f, t, f, f, f]), none⟩]) : CCode)) false true
def c20_o5 : CCode := (fun (f t : Bool) => (.trim [[f], [t], [f, f], [t, f], [f, t], [t, t], [f, f, f], [f, t, f], [t, t, f]] (.ops [
  ⟨some [t, t, f, f, f], .move (.s [t]), none⟩,
  ⟨some [f, f, t, f, f], .bin .neq (.s [t, t, f, f, f]) (.c (.int .i64 0)), none⟩,
  ⟨some [t, f, t, f, f], .move (.s [f, f, t, f, f]), none⟩,
  ⟨some [f, t, t, f, f], .load (some 2) (.s [f]), some ([t, f, t, f, f], f)⟩,
  ⟨some [t, t, t, f, f], .build [.int .i64 0, .int .i64 0] [(0, 1, (.c (.int .i64 1))), (1, 1, (.c (.int .i64 6)))], some ([t, f, t, f, f], f)⟩,
  ⟨some [f, f, f, t, f], .eqa [.i .i64, .i .i64] t (.s [f, t, t, f, f]) (.s [t, t, t, f, f]), some ([t, f, t, f, f], f)⟩,
  ⟨some [t, f, f, t, f], .pick (.s [t, f, t, f, f]) (.c (.bool t)) (.s [f, f, f, t, f]), none⟩,
  ⟨some [f, t, f, t, f], .move (.s [t, f, f, t, f]), none⟩,
  ⟨some [t, t, f, t, f], .move (.s [t, f]), some ([f, t, f, t, f], f)⟩,
  ⟨some [f, f, t, t, f], .bin .neq (.s [t, t, f, t, f]) (.c (.int .i64 0)), some ([f, t, f, t, f], f)⟩,
  ⟨some [t, f, t, t, f], .pick (.s [f, t, f, t, f]) (.c (.bool t)) (.s [f, f, t, t, f]), none⟩,
  ⟨some [f, t, t, t, f], .move (.s [t, f, t, t, f]), none⟩,
  ⟨some [t, t, t, t, f], .fieldAddr 0 (.s [f, f]), some ([f, t, t, t, f], f)⟩,
  ⟨some [f, f, f, f, t], .load none (.s [t, t, t, t, f]), some ([f, t, t, t, f], f)⟩,
  ⟨some [t, f, f, f, t], .buildSlice none 1 2 [.int .i64 0, .int .i64 0] [(0, 1, (.c (.int .i64 (-1)))), (1, 1, (.c (.int .i64 0)))], some ([f, t, t, t, f], f)⟩,
  ⟨some [f, t, f, f, t], .call f (.c (.func 45 [])) [(.s [f, f, f, f, t]), (.s [t, f, f, f, t])], some ([f, t, t, t, f], f)⟩,
  ⟨some [t, t, f, f, t], .un .not (.s [f, t, f, f, t]), some ([f, t, t, t, f], f)⟩,
  ⟨some [f, f, t, f, t], .pick (.s [f, t, t, t, f]) (.c (.bool t)) (.s [t, t, f, f, t]), none⟩,
  ⟨some [t, f, t, f, t], .move (.s [f, f, t, f, t]), none⟩,
  ⟨some [f, t, t, f, t], .fieldAddr 1 (.s [f, f]), some ([t, f, t, f, t], f)⟩,
  ⟨some [t, t, t, f, t], .load none (.s [f, t, t, f, t]), some ([t, f, t, f, t], f)⟩,
  ⟨some [f, f, f, t, t], .buildSlice none 1 2 [.int .i64 0, .int .i64 0] [(0, 1, (.c (.int .i64 1))), (1, 1, (.c (.int .i64 1)))], some ([t, f, t, f, t], f)⟩,
  ⟨some [t, f, f, t, t], .call f (.c (.func 45 [])) [(.s [t, t, t, f, t]), (.s [f, f, f, t, t])], some ([t, f, t, f, t], f)⟩,
  ⟨some [f, t, f, t, t], .un .not (.s [t, f, f, t, t]), some ([t, f, t, f, t], f)⟩,
  ⟨some [t, t, f, t, t], .pick (.s [t, f, t, f, t]) (.c (.bool t)) (.s [f, t, f, t, t]), none⟩,
  ⟨some [f, f, t, t, t], .move (.s [t, t, f, t, t]), none⟩,
  ⟨some [t, f, t, t, t], .move (.s [f, f, f]), some ([f, f, t, t, t], f)⟩,
  ⟨some [f, t, t, t, t], .bin .neq (.s [t, f, t, t, t]) (.c (.int .i64 0)), some ([f, f, t, t, t], f)⟩,
  ⟨some [t, t, t, t, t], .pick (.s [f, f, t, t, t]) (.c (.bool t)) (.s [f, t, t, t, t]), none⟩,
  ⟨some [f, f, f, f, f, f], .move (.s [t, t, t, t, t]), none⟩,
  ⟨some [t, f, f, f, f, f], .move (.s [f, t]), some ([f, f, f, f, f, f], f)⟩,
  ⟨some [f, t, f, f, f, f], .bin .neq (.s [t, f, f, f, f, f]) (.c (.int .i64 3)), some ([f, f, f, f, f, f], f)⟩,
  ⟨some [t, t, f, f, f, f], .pick (.s [f, f, f, f, f, f]) (.c (.bool t)) (.s [f, t, f, f, f, f]), none⟩,
  ⟨some [f, f, t, f, f, f], .move (.s [t, t, f, f, f, f]), none⟩,
  ⟨some [t, f, t, f, f, f], .move (.s [t, t]), some ([f, f, t, f, f, f], f)⟩,
  ⟨some [f, t, t, f, f, f], .bin .neq (.s [t, f, t, f, f, f]) (.c (.int .i64 0)), some ([f, f, t, f, f, f], f)⟩,
  ⟨some [t, t, t, f, f, f], .pick (.s [f, f, t, f, f, f]) (.c (.bool t)) (.s [f, t, t, f, f, f]), none⟩,
  ⟨some [f, f, f, t, f, f], .move (.s [t, t, t, f, f, f]), none⟩,
  ⟨some [t, f, f, t, f, f], .move (.s [t, t, f]), some ([f, f, f, t, f, f], f)⟩,
  ⟨some [f, t, f, t, f, f], .bin .neq (.s [t, f, f, t, f, f]) (.c (.int .i64 0)), some ([f, f, f, t, f, f], f)⟩,
  ⟨some [t, t, f, t, f, f], .pick (.s [f, f, f, t, f, f]) (.c (.bool t)) (.s [f, t, f, t, f, f]), none⟩,
  ⟨some [f, f, t, t, f, f], .move (.s [t, t, f, t, f, f]), none⟩,
  ⟨some [t, f, t, t, f, f], .load (some 2) (.s [f, t, f]), some ([f, f, t, t, f, f], f)⟩,
  ⟨some [f, t, t, t, f, f], .build [.int .i64 0, .int .i64 0] [(0, 1, (.c (.int .i64 3))), (1, 1, (.c (.int .i64 2)))], some ([f, f, t, t, f, f], f)⟩,
  ⟨some [t, t, t, t, f, f], .eqa [.i .i64, .i .i64] t (.s [t, f, t, t, f, f]) (.s [f, t, t, t, f, f]), some ([f, f, t, t, f, f], f)⟩,
  ⟨some [f, f, f, f, t, f], .pick (.s [f, f, t, t, f, f]) (.c (.bool t)) (.s [t, t, t, t, f, f]), none⟩]) : CCode)) false true
def c20_o6 : CCode := (fun (f t : Bool) => (.trim [] (.ops [
  ⟨some [], .move (.c (.bool f)), none⟩]) : CCode)) false true
def c20_o7 : CCode := (fun (f t : Bool) => (.trim [] (.ops [
  ⟨some [], .move (.c (.bool t)), none⟩]) : CCode)) false true
def c20 : CFunc := (fun (f t : Bool) => ({ params := [], results := [.slot []], shared := f, body := (.seq c20_o0
 (.seq c20_o1
 (.seq c20_o2
 (.seq c20_o3
 (.seq c20_o4
 (.seq (.seq c20_o5
 (.cond (.s [f, f, f, f, t, f]) (.seq c20_o6
 .ret) .skip))
 (.seq c20_o7
 .ret))))))) } : CFunc)) false true
-- numnah/numnahlaw05.single
def c22 : CFunc := (fun (f t : Bool) => ({ params := [[]], results := [.slot [t], .slot [f, f], .slot [t, f]], shared := f, body := (.seq (.ops [
  ⟨some [f], .box none (.s []), none⟩,
  ⟨some [t], .move (.c (.int .i64 0)), none⟩,
  ⟨some [f, f], .move (.c (.int .i64 0)), none⟩,
  ⟨some [t, f], .move (.c (.int .i64 0)), none⟩])
 (.seq (.ops [
  ⟨some [f, f, f], .idxArr 3 1 (.s [f]) (.c (.int .i64 0)), none⟩,
  ⟨some [t, f, f], .load none (.s [f, f, f]), none⟩,
  ⟨some [f, t, f], .call f (.c (.func 24 [])) [(.s [t, f, f]), (.c (.int .i64 36))], none⟩,
  ⟨some [t, t, f], .bin .add (.c (.int .i64 1)) (.s [f, t, f]), none⟩,
  ⟨some [f, t], .move (.s [t, t, f]), none⟩])
 (.seq (.ops [
  ⟨some [f, f, t], .idxArr 3 1 (.s [f]) (.c (.int .i64 1)), none⟩,
  ⟨some [t, f, t], .load none (.s [f, f, t]), none⟩,
  ⟨some [f, t, t], .move (.s [f, t]), none⟩,
  ⟨some [t, t, t], .call f (.c (.func 24 [])) [(.s [t, f, t]), (.s [f, t, t])], none⟩,
  ⟨some [f, f, f, f], .bin .add (.c (.int .i64 1)) (.s [t, t, t]), none⟩,
  ⟨some [t, t], .move (.s [f, f, f, f]), none⟩])
 (.seq (.ops [
  ⟨some [t, f, f, f], .move (.s [f, t]), none⟩,
  ⟨some [f, t, f, f], .move (.s [t, t]), none⟩,
  ⟨some [t, t, f, f], .idxArr 3 1 (.s [f]) (.c (.int .i64 2)), none⟩,
  ⟨some [f, f, t, f], .load none (.s [t, t, f, f]), none⟩,
  ⟨some [t, f, t, f], .move (.s [t, t]), none⟩,
  ⟨some [f, t, t, f], .call f (.c (.func 24 [])) [(.s [f, f, t, f]), (.s [t, f, t, f])], none⟩,
  ⟨some [t], .move (.s [t, f, f, f]), none⟩,
  ⟨some [f, f], .move (.s [f, t, f, f]), none⟩,
  ⟨some [t, f], .move (.s [f, t, t, f]), none⟩])
 .ret)))) } : CFunc)) false true
-- numnah/sample.Single
def c23 : CFunc := (fun (f t : Bool) => ({ params := [[], [f], [t], [f, f]], results := [.cell [t, f, f] (some 2), .slot [f, t, f]], shared := f, body := (.seq (.ops [
  ⟨some [t, f, f], .alloc none [.int .i64 0, .int .i64 0], none⟩,
  ⟨some [f, t, f], .move (.c (.int .i64 0)), none⟩])
 (.seq (.seq (.ops [
  ⟨some [f, f, t], .move (.s []), none⟩,
  ⟨some [t, f, t], .move (.s [f]), none⟩,
  ⟨some [f, t, t], .call f (.c (.func 52 [])) [(.s [f, f, t]), (.s [t, f, t])], none⟩,
  ⟨some [t, t, t], .un .not (.s [f, t, t]), none⟩,
  ⟨some [f, f, f, f], .move (.s [t, t, t]), none⟩,
  ⟨some [t, f, f, f], .move (.s []), some ([f, f, f, f], f)⟩,
  ⟨some [f, t, f, f], .move (.s [t]), some ([f, f, f, f], f)⟩,
  ⟨some [t, t, f, f], .move (.s [f, f]), some ([f, f, f, f], f)⟩,
  ⟨some [f, f, t, f], .call f (.c (.func 60 [])) [(.s [t, f, f, f]), (.s [f, t, f, f]), (.s [t, t, f, f])], some ([f, f, f, f], f)⟩,
  ⟨some [t, f, t, f], .un .not (.s [f, f, t, f]), some ([f, f, f, f], f)⟩,
  ⟨some [f, t, t, f], .pick (.s [f, f, f, f]) (.c (.bool t)) (.s [t, f, t, f]), none⟩])
 (.cond (.s [f, t, t, f]) (.seq (.ops [
  ⟨some [t, t, t, f], .build [.int .i64 0, .int .i64 0] [], none⟩,
  ⟨none, .store 2 (.s [t, f, f]) (.s [t, t, t, f]), none⟩,
  ⟨some [f, t, f], .move (.c (.int .i64 2)), none⟩])
 .ret) .skip))
 (.seq (.ops [
  ⟨some [f, f, f, t], .call f (.c (.func 54 [])) [], none⟩,
  ⟨some [t, t, f], .move (.s [f, f, f, t]), none⟩])
 (.seq (.ops [
  ⟨some [t, f, f, t], .move (.s [t, t, f]), none⟩,
  ⟨some [f, t, f, t], .move (.s []), none⟩,
  ⟨some [t, t, f, t], .move (.s [f]), none⟩,
  ⟨some [f, f, t, t], .move (.s [t]), none⟩,
  ⟨some [t, f, t, t], .move (.s [f, f]), none⟩,
  ⟨some [f, t, t, t], .call f (.c (.func 57 [])) [(.s [t, f, f, t]), (.s [f, t, f, t]), (.s [t, t, f, t]), (.s [f, f, t, t]), (.s [t, f, t, t])], none⟩,
  ⟨some [t, t, t, t], .move (.s [t, t, f]), none⟩,
  ⟨some [f, f, f, f, f], .move (.s []), none⟩,
  ⟨some [t, f, f, f, f], .move (.s [f]), none⟩,
  ⟨some [f, t, f, f, f], .call f (.c (.func 58 [])) [(.s [t, t, t, t]), (.s [f, f, f, f, f]), (.s [t, f, f, f, f])], none⟩,
  ⟨some [t, t, f, f, f], .call f (.c (.func 56 [])) [(.s [f, t, t, t]), (.s [f, t, f, f, f])], none⟩,
  ⟨none, .store 2 (.s [t, f, f]) (.s [t, t, f, f, f]), none⟩,
  ⟨some [f, t, f], .move (.c (.int .i64 0)), none⟩])
 .ret)))) } : CFunc)) false true
-- numnah/numnahlaw05.mod
def c24 : CFunc := (fun (f t : Bool) => ({ params := [[], [f]], results := [.slot [t, f]], shared := f, body := (.seq (.ops [
  ⟨some [t, f], .move (.c (.int .i64 0)), none⟩])
 (.seq (.ops [
  ⟨some [f, t], .move (.s []), none⟩,
  ⟨some [t, t], .conv .u64 (.s [f, t]), none⟩,
  ⟨some [f, f, f], .move (.s [f]), none⟩,
  ⟨some [t, f, f], .conv .u64 (.s [f, f, f]), none⟩,
  ⟨some [f, t, f], .bin .rem (.s [t, t]) (.s [t, f, f]), none⟩,
  ⟨some [t, t, f], .conv .i64 (.s [f, t, f]), none⟩,
  ⟨some [t, f], .move (.s [t, t, f]), none⟩])
 .ret)) } : CFunc)) false true
-- numnah/numnahref05.Reduced
def c25 : CFunc := (fun (f t : Bool) => ({ params := [[], [f]], results := [.cell [t, f] (some 2)], shared := f, body := (.seq (.ops [
  ⟨some [t, f], .alloc none [.int .i64 0, .int .i64 0], none⟩])
 (.seq (.ops [
  ⟨some [t, t], .move (.s []), none⟩,
  ⟨some [f, f, f], .move (.s [f]), none⟩,
  ⟨some [t, f, f], .call f (.c (.func 59 [])) [(.s [t, t]), (.s [f, f, f])], none⟩,
  ⟨some [f, t], .move (.s [t, f, f]), none⟩])
 (.seq (.draw 0 [
  ⟨some [f, t, f], .move (.s []), none⟩,
  ⟨some [t, t, f], .move (.s [f, t]), none⟩,
  ⟨some [f, f, t], .bin .quo (.s [f, t, f]) (.s [t, t, f]), none⟩,
  ⟨some [t, f, t], .move (.s [f]), none⟩,
  ⟨some [f, t, t], .move (.s [f, t]), none⟩,
  ⟨some [t, t, t], .bin .quo (.s [t, f, t]) (.s [f, t, t]), none⟩,
  ⟨some [f, f, f, f], .build [.int .i64 0, .int .i64 0] [(0, 1, (.s [f, f, t])), (1, 1, (.s [t, t, t]))], none⟩,
  ⟨none, .store 2 (.s [t, f]) (.s [f, f, f, f]), none⟩]
  [] [[], [], [0, 1], [], [], [3, 4], (r 6), (r 7)])
 .ret))) } : CFunc)) false true
-- numnah/numnahlaw05.valid
-- c26_o0: 0=[]
-- c26_o1: 1=[f]
def c26_o0 : CCode := (fun (f t : Bool) => (.trim [[]] (.ops [
  ⟨some [f], .box none (.s []), none⟩,
  ⟨some [t], .move (.c (.bool f)), none⟩]) : CCode)) false true
def c26_o1 : CCode := (fun (f t : Bool) => (.trim [[f]] (.draw 0 [
  ⟨some [f, f], .fieldAddr 0 (.s [f]), none⟩,
  ⟨some [t, f], .load none (.s [f, f]), none⟩,
  ⟨some [f, t], .bin .geq (.s [t, f]) (.c (.int .i64 0)), none⟩,
  ⟨some [t, t], .move (.s [f, t]), none⟩,
  ⟨some [f, f, f], .fieldAddr 1 (.s [f]), some ([t, t], t)⟩,
  ⟨some [t, f, f], .load none (.s [f, f, f]), some ([t, t], t)⟩,
  ⟨some [f, t, f], .bin .geq (.s [t, f, f]) (.c (.int .i64 1)), some ([t, t], t)⟩,
  ⟨some [t, t, f], .pick (.s [t, t]) (.s [f, t, f]) (.c (.bool f)), none⟩,
  ⟨some [f, f, t], .move (.s [t, t, f]), none⟩,
  ⟨some [t, f, t], .fieldAddr 0 (.s [f]), some ([f, f, t], t)⟩,
  ⟨some [f, t, t], .load none (.s [t, f, t]), some ([f, f, t], t)⟩,
  ⟨some [t, t, t], .bin .leq (.s [f, t, t]) (.c (.int .i64 1099511627776)), some ([f, f, t], t)⟩,
  ⟨some [f, f, f, f], .pick (.s [f, f, t]) (.s [t, t, t]) (.c (.bool f)), none⟩,
  ⟨some [t, f, f, f], .move (.s [f, f, f, f]), none⟩,
  ⟨some [f, t, f, f], .fieldAddr 1 (.s [f]), some ([t, f, f, f], t)⟩,
  ⟨some [t, t, f, f], .load none (.s [f, t, f, f]), some ([t, f, f, f], t)⟩,
  ⟨some [f, f, t, f], .bin .leq (.s [t, t, f, f]) (.c (.int .i64 1099511627776)), some ([t, f, f, f], t)⟩,
  ⟨some [t, f, t, f], .pick (.s [t, f, f, f]) (.s [f, f, t, f]) (.c (.bool f)), none⟩,
  ⟨some [f, t, t, f], .move (.s [t, f, t, f]), none⟩,
  ⟨some [t, t, t, f], .load (some 2) (.s [f]), some ([f, t, t, f], t)⟩,
  ⟨some [f, f, f, t], .fieldAddr 0 (.s [f]), some ([f, t, t, f], t)⟩,
  ⟨some [t, f, f, t], .load none (.s [f, f, f, t]), some ([f, t, t, f], t)⟩,
  ⟨some [f, t, f, t], .fieldAddr 1 (.s [f]), some ([f, t, t, f], t)⟩,
  ⟨some [t, t, f, t], .load none (.s [f, t, f, t]), some ([f, t, t, f], t)⟩,
  ⟨some [f, f, t, t], .call f (.c (.func 25 [])) [(.s [t, f, f, t]), (.s [t, t, f, t])], some ([f, t, t, f], t)⟩,
  ⟨some [t, f, t, t], .eqa [.i .i64, .i .i64] f (.s [t, t, t, f]) (.s [f, f, t, t]), some ([f, t, t, f], t)⟩,
  ⟨some [f, t, t, t], .pick (.s [f, t, t, f]) (.s [t, f, t, t]) (.c (.bool f)), none⟩,
  ⟨some [t], .move (.s [f, t, t, t]), none⟩]
  [(19, 21), (19, 23), (21, 23), (19, 24)] [[], [0], [0, 1], [0, 1, 2], [0, 1, 2, 3], (r 5), (r 6), (r 7), (r 8), (r 9), (r 10), (r 11), (r 12), (r 13), (r 14), (r 15), (r 16), (r 17), (r 18), (r 19), (r 19), (r 19 ++ [20]), (r 19), (r 19 ++ [22]), (r 19 ++ [20, 21, 22, 23]), (r 25), (r 26), (r 27)]) : CCode)) false true
def c26 : CFunc := (fun (f t : Bool) => ({ params := [[]], results := [.slot [t]], shared := f, body := (.seq c26_o0
 (.seq c26_o1
 .ret)) } : CFunc)) false true
-- numnah/numnahref05.Less
-- c27_o0: 0=[] 1=[f]
-- c27_o1: 2=[t] 3=[f, f]
-- c27_o2: 5=[f, t] 6=[t, t] 7=[f, f, f] 8=[t, f, f]
-- c27_o3: 5=[f, t] 6=[t, t] 7=[f, f, f] 8=[t, f, f] 9=[f, t, f]
-- c27_o4: 5=[f, t] 6=[t, t] 7=[f, f, f] 8=[t, f, f] 9=[f, t, f]
-- c27_o5: 6=[t, t] 8=[t, f, f] 9=[f, t, f] 10=[t, t, f] 11=[f, f, t]
-- c27_o6: 9=[f, t, f] 10=[t, t, f] 11=[f, f, t]
-- c27_o7: 
-- c27_o8: 9=[f, t, f] 10=[t, t, f]
-- c27_o9: 6=[t, t] 8=[t, f, f] 9=[f, t, f] 10=[t, t, f] 11=[f, f, t]
-- c27_o10: 5=[f, t] 8=[t, f, f] 9=[f, t, f] 10=[t, t, f] 11=[f, f, t]
-- c27_o11: 5=[f, t] 6=[t, t] 8=[t, f, f] 9=[f, t, f] 11=[f, f, t]
-- c27_o12: 5=[f, t] 6=[t, t] 7=[f, f, f] 9=[f, t, f] 11=[f, f, t]
-- c27_o13: 5=[f, t] 6=[t, t] 7=[f, f, f] 8=[t, f, f] 9=[f, t, f]
-- c27_l0: live slots [5, 6, 7, 8, 9]
-- c27_o14: 5=[f, t] 6=[t, t] 7=[f, f, f] 8=[t, f, f] 9=[f, t, f]
def c27_o0 : CCode := (fun (f t : Bool) => (.trim [[], [f]] (.ops [
  ⟨some [t], .box none (.s []), none⟩,
  ⟨some [f, f], .box none (.s [f]), none⟩,
  ⟨some [t, f], .move (.c (.bool f)), none⟩]) : CCode)) false true
def c27_o1 : CCode := (fun (f t : Bool) => (.trim [[t], [f, f]] (.draw 0 [
  ⟨some [t, f, t], .fieldAddr 0 (.s [t]), none⟩,
  ⟨some [f, t, t], .load none (.s [t, f, t]), none⟩,
  ⟨some [t, t, t], .fieldAddr 1 (.s [t]), none⟩,
  ⟨some [f, f, f, f], .load none (.s [t, t, t]), none⟩,
  ⟨some [t, f, f, f], .fieldAddr 0 (.s [f, f]), none⟩,
  ⟨some [f, t, f, f], .load none (.s [t, f, f, f]), none⟩,
  ⟨some [t, t, f, f], .fieldAddr 1 (.s [f, f]), none⟩,
  ⟨some [f, f, t, f], .load none (.s [t, t, f, f]), none⟩,
  ⟨some [f, t], .move (.s [f, t, t]), none⟩,
  ⟨some [t, t], .move (.s [f, f, f, f]), none⟩,
  ⟨some [f, f, f], .move (.s [f, t, f, f]), none⟩,
  ⟨some [t, f, f], .move (.s [f, f, t, f]), none⟩]
  [(1, 3), (1, 5), (3, 5), (1, 7), (3, 7), (5, 7)] [[], [0], [], [2], [], [4], [], [6], [0, 1], [0, 1, 2, 3, 8], (r 6 ++ [8, 9]), (r 11)]) : CCode)) false true
def c27_o2 : CCode := (fun (f t : Bool) => (.trim [[f, t], [t, t], [f, f, f], [t, f, f]] (.ops [
  ⟨some [f, t, f], .move (.c (.bool f)), none⟩]) : CCode)) false true
def c27_o3 : CCode := (fun (f t : Bool) => (.trim [[f, t], [t, t], [f, f, f], [t, f, f], [f, t, f]] (.draw 0 [
  ⟨some [t, f, t, f], .move (.s [f, t]), none⟩,
  ⟨some [f, t, t, f], .move (.s [t, t]), none⟩,
  ⟨some [t, t, t, f], .bin .quo (.s [t, f, t, f]) (.s [f, t, t, f]), none⟩,
  ⟨some [f, f, f, t], .move (.s [f, f, f]), none⟩,
  ⟨some [t, f, f, t], .move (.s [t, f, f]), none⟩,
  ⟨some [f, t, f, t], .bin .quo (.s [f, f, f, t]) (.s [t, f, f, t]), none⟩,
  ⟨some [t, t, f, t], .bin .eql (.s [t, t, t, f]) (.s [f, t, f, t]), none⟩]
  [] [[], [], [0, 1], [], [], [3, 4], (r 6)]) : CCode)) false true
def c27_o4 : CCode := (fun (f t : Bool) => (.trim [[f, t], [t, t], [f, f, f], [t, f, f], [f, t, f]] (.draw 0 [
  ⟨some [f, f, t, t], .move (.s [f, t]), none⟩,
  ⟨some [t, f, t, t], .move (.s [t, t]), none⟩,
  ⟨some [f, t, t, t], .bin .rem (.s [f, f, t, t]) (.s [t, f, t, t]), none⟩,
  ⟨some [t, t, t, t], .move (.s [f, f, f]), none⟩,
  ⟨some [f, f, f, f, f], .move (.s [t, f, f]), none⟩,
  ⟨some [t, f, f, f, f], .bin .rem (.s [t, t, t, t]) (.s [f, f, f, f, f]), none⟩,
  ⟨some [t, t, f], .move (.s [f, t, t, t]), none⟩,
  ⟨some [f, f, t], .move (.s [t, f, f, f, f]), none⟩]
  [] [[], [], [0, 1], [], [], [3, 4], [0, 1, 2], (r 7)]) : CCode)) false true
def c27_o5 : CCode := (fun (f t : Bool) => (.trim [[t, t], [t, f, f], [f, t, f], [t, t, f], [f, f, t]] (.ops [
  ⟨some [f, t, f, f, f], .move (.s [t, t, f]), none⟩,
  ⟨some [t, t, f, f, f], .bin .eql (.s [f, t, f, f, f]) (.c (.int .i64 0)), none⟩,
  ⟨some [f, f, t, f, f], .move (.s [t, t, f, f, f]), none⟩,
  ⟨some [t, f, t, f, f], .move (.s [f, f, t]), some ([f, f, t, f, f], f)⟩,
  ⟨some [f, t, t, f, f], .bin .eql (.s [t, f, t, f, f]) (.c (.int .i64 0)), some ([f, f, t, f, f], f)⟩,
  ⟨some [t, t, t, f, f], .pick (.s [f, f, t, f, f]) (.c (.bool t)) (.s [f, t, t, f, f]), none⟩]) : CCode)) false true
def c27_o6 : CCode := (fun (f t : Bool) => (.trim [[f, t, f], [t, t, f], [f, f, t]] (.ops [
  ⟨some [f, f, f, t, f], .move (.s [t, t, f]), none⟩,
  ⟨some [t, f, f, t, f], .bin .eql (.s [f, f, f, t, f]) (.c (.int .i64 0)), none⟩,
  ⟨some [f, t, f, t, f], .move (.s [t, f, f, t, f]), none⟩,
  ⟨some [t, t, f, t, f], .move (.s [f, f, t]), some ([f, t, f, t, f], t)⟩,
  ⟨some [f, f, t, t, f], .bin .eql (.s [t, t, f, t, f]) (.c (.int .i64 0)), some ([f, t, f, t, f], t)⟩,
  ⟨some [t, f, t, t, f], .pick (.s [f, t, f, t, f]) (.s [f, f, t, t, f]) (.c (.bool f)), none⟩]) : CCode)) false true
def c27_o7 : CCode := (fun (f t : Bool) => (.trim [] (.ops [
  ⟨some [t, f], .move (.c (.bool f)), none⟩]) : CCode)) false true
def c27_o8 : CCode := (fun (f t : Bool) => (.trim [[f, t, f], [t, t, f]] (.ops [
  ⟨some [f, t, t, t, f], .move (.s [t, t, f]), none⟩,
  ⟨some [t, t, t, t, f], .bin .eql (.s [f, t, t, t, f]) (.c (.int .i64 0)), none⟩,
  ⟨some [f, f, f, f, t], .move (.s [f, t, f]), none⟩,
  ⟨some [t, f, f, f, t], .eqv 0 t (.s [t, t, t, t, f]) (.s [f, f, f, f, t]), none⟩,
  ⟨some [t, f], .move (.s [t, f, f, f, t]), none⟩]) : CCode)) false true
def c27_o9 : CCode := (fun (f t : Bool) => (.trim [[t, t], [t, f, f], [f, t, f], [t, t, f], [f, f, t]] (.ops [
  ⟨some [f, t, f, f, t], .move (.s [t, t]), none⟩,
  ⟨some [f, t], .move (.s [f, t, f, f, t]), none⟩]) : CCode)) false true
def c27_o10 : CCode := (fun (f t : Bool) => (.trim [[f, t], [t, f, f], [f, t, f], [t, t, f], [f, f, t]] (.ops [
  ⟨some [t, t, f, f, t], .move (.s [t, t, f]), none⟩,
  ⟨some [t, t], .move (.s [t, t, f, f, t]), none⟩]) : CCode)) false true
def c27_o11 : CCode := (fun (f t : Bool) => (.trim [[f, t], [t, t], [t, f, f], [f, t, f], [f, f, t]] (.ops [
  ⟨some [f, f, t, f, t], .move (.s [t, f, f]), none⟩,
  ⟨some [f, f, f], .move (.s [f, f, t, f, t]), none⟩]) : CCode)) false true
def c27_o12 : CCode := (fun (f t : Bool) => (.trim [[f, t], [t, t], [f, f, f], [f, t, f], [f, f, t]] (.ops [
  ⟨some [t, f, t, f, t], .move (.s [f, f, t]), none⟩,
  ⟨some [t, f, f], .move (.s [t, f, t, f, t]), none⟩]) : CCode)) false true
def c27_o13 : CCode := (fun (f t : Bool) => (.trim [[f, t], [t, t], [f, f, f], [t, f, f], [f, t, f]] (.ops [
  ⟨some [f, t, t, f, t], .move (.s [f, t, f]), none⟩,
  ⟨some [t, t, t, f, t], .un .not (.s [f, t, t, f, t]), none⟩,
  ⟨some [f, t, f], .move (.s [t, t, t, f, t]), none⟩]) : CCode)) false true
def c27_b0 : CCode := (fun (f t : Bool) => ((.seq (.seq c27_o3
 (.cond (.s [t, t, f, t]) .skip (.exit 0)))
 (.block 1 (.seq c27_o4
 (.seq (.seq c27_o5
 (.cond (.s [t, t, t, f, f]) (.seq (.seq c27_o6
 (.cond (.s [t, f, t, t, f]) (.seq c27_o7
 .ret) .skip))
 (.seq c27_o8
 .ret)) .skip))
 (.seq c27_o9
 (.seq c27_o10
 (.seq c27_o11
 (.seq c27_o12
 c27_o13)))))))) : CCode)) false true
def c27_l0 : CCode := (fun (f t : Bool) => (.loop [[f, t], [t, t], [f, f, f], [t, f, f], [f, t, f]] c27_b0 : CCode)) false true
def c27_o14 : CCode := (fun (f t : Bool) => (.trim [[f, t], [t, t], [f, f, f], [t, f, f], [f, t, f]] (.draw 0 [
  ⟨some [f, f, f, t, t], .move (.s [f, t]), none⟩,
  ⟨some [t, f, f, t, t], .move (.s [t, t]), none⟩,
  ⟨some [f, t, f, t, t], .bin .quo (.s [f, f, f, t, t]) (.s [t, f, f, t, t]), none⟩,
  ⟨some [t, t, f, t, t], .move (.s [f, f, f]), none⟩,
  ⟨some [f, f, t, t, t], .move (.s [t, f, f]), none⟩,
  ⟨some [t, f, t, t, t], .bin .quo (.s [t, t, f, t, t]) (.s [f, f, t, t, t]), none⟩,
  ⟨some [f, t, t, t, t], .bin .lss (.s [f, t, f, t, t]) (.s [t, f, t, t, t]), none⟩,
  ⟨some [t, t, t, t, t], .move (.s [f, t, f]), none⟩,
  ⟨some [f, f, f, f, f, f], .eqv 0 t (.s [f, t, t, t, t]) (.s [t, t, t, t, t]), none⟩,
  ⟨some [t, f], .move (.s [f, f, f, f, f, f]), none⟩]
  [] [[], [], [0, 1], [], [], [3, 4], (r 6), [], (r 8), (r 9)]) : CCode)) false true
def c27 : CFunc := (fun (f t : Bool) => ({ params := [[], [f]], results := [.slot [t, f]], shared := f, body := (.seq c27_o0
 (.seq c27_o1
 (.seq c27_o2
 (.seq (.block 0 c27_l0)
 (.seq c27_o14
 .ret))))) } : CFunc)) false true
-- numnah/sample.Ways
def c28 : CFunc := (fun (f t : Bool) => ({ params := [[], [f]], results := [.slot [t, f], .slot [f, t]], shared := f, body := (.seq (.ops [
  ⟨some [t, f], .move (.c (.int .i64 0)), none⟩,
  ⟨some [f, t], .move (.c (.int .i64 0)), none⟩])
 (.seq (.seq (.ops [
  ⟨some [t, t], .move (.s []), none⟩,
  ⟨some [f, f, f], .move (.s [f]), none⟩,
  ⟨some [t, f, f], .call f (.c (.func 52 [])) [(.s [t, t]), (.s [f, f, f])], none⟩,
  ⟨some [f, t, f], .un .not (.s [t, f, f]), none⟩])
 (.cond (.s [f, t, f]) (.seq (.ops [
  ⟨some [t, f], .move (.c (.int .i64 0)), none⟩,
  ⟨some [f, t], .move (.c (.int .i64 2)), none⟩])
 .ret) .skip))
 (.seq (.ops [
  ⟨some [t, t, f], .call f (.c (.func 54 [])) [], none⟩,
  ⟨some [f, f, t], .move (.s []), none⟩,
  ⟨some [t, f, t], .move (.s [f]), none⟩,
  ⟨some [f, t, t], .call f (.c (.func 58 [])) [(.s [t, t, f]), (.s [f, f, t]), (.s [t, f, t])], none⟩,
  ⟨some [t, f], .move (.s [f, t, t]), none⟩,
  ⟨some [f, t], .move (.c (.int .i64 0)), none⟩])
 .ret))) } : CFunc)) false true
-- numnah/numnahref05.Binomial
-- c29_l0: live slots [0, 1, 5, 6]
def c29_b0 : CCode := (fun (f t : Bool) => ((.seq (.seq (.ops [
  ⟨some [t, t, t], .move (.s [t, t]), none⟩,
  ⟨some [f, f, f, f], .move (.s [f]), none⟩,
  ⟨some [t, f, f, f], .bin .leq (.s [t, t, t]) (.s [f, f, f, f]), none⟩])
 (.cond (.s [t, f, f, f]) .skip (.exit 0)))
 (.seq (.block 1 (.ops [
  ⟨some [f, f, t, f], .move (.s [f, t]), none⟩,
  ⟨some [t, f, t, f], .move (.s []), none⟩,
  ⟨some [f, t, t, f], .move (.s [f]), none⟩,
  ⟨some [t, t, t, f], .bin .sub (.s [t, f, t, f]) (.s [f, t, t, f]), none⟩,
  ⟨some [f, f, f, t], .move (.s [t, t]), none⟩,
  ⟨some [t, f, f, t], .bin .add (.s [t, t, t, f]) (.s [f, f, f, t]), none⟩,
  ⟨some [f, t, f, t], .bin .mul (.s [f, f, t, f]) (.s [t, f, f, t]), none⟩,
  ⟨some [t, t, f, t], .move (.s [t, t]), none⟩,
  ⟨some [f, f, t, t], .bin .quo (.s [f, t, f, t]) (.s [t, t, f, t]), none⟩,
  ⟨some [f, t], .move (.s [f, f, t, t]), none⟩]))
 (.ops [
  ⟨some [f, t, f, f], .move (.s [t, t]), none⟩,
  ⟨some [t, t, f, f], .bin .add (.s [f, t, f, f]) (.c (.int .i64 1)), none⟩,
  ⟨some [t, t], .move (.s [t, t, f, f]), none⟩]))) : CCode)) false true
def c29_l0 : CCode := (fun (f t : Bool) => (.loop [[], [f], [f, t], [t, t]] c29_b0 : CCode)) false true
def c29 : CFunc := (fun (f t : Bool) => ({ params := [[], [f]], results := [.slot [t, f]], shared := f, body := (.seq (.ops [
  ⟨some [t, f], .move (.c (.int .i64 0)), none⟩])
 (.seq (.seq (.ops [
  ⟨some [f, f, f], .move (.s [f]), none⟩,
  ⟨some [t, f, f], .bin .lss (.s [f, f, f]) (.c (.int .i64 0)), none⟩,
  ⟨some [f, t, f], .move (.s [t, f, f]), none⟩,
  ⟨some [t, t, f], .move (.s [f]), some ([f, t, f], f)⟩,
  ⟨some [f, f, t], .move (.s []), some ([f, t, f], f)⟩,
  ⟨some [t, f, t], .bin .gtr (.s [t, t, f]) (.s [f, f, t]), some ([f, t, f], f)⟩,
  ⟨some [f, t, t], .pick (.s [f, t, f]) (.c (.bool t)) (.s [t, f, t]), none⟩])
 (.cond (.s [f, t, t]) (.seq (.ops [
  ⟨some [t, f], .move (.c (.int .i64 0)), none⟩])
 .ret) .skip))
 (.seq (.ops [
  ⟨some [f, t], .move (.c (.int .i64 1)), none⟩])
 (.seq (.seq (.ops [
  ⟨some [t, t], .move (.c (.int .i64 1)), none⟩])
 (.block 0 c29_l0))
 (.seq (.ops [
  ⟨some [t, f, t, t], .move (.s [f, t]), none⟩,
  ⟨some [t, f], .move (.s [t, f, t, t]), none⟩])
 .ret))))) } : CFunc)) false true
-- numnah/numnahref05.Plan
def c30 : CFunc := (fun (f t : Bool) => ({ params := [[], [f], [t]], results := [.slot [t, t]], shared := f, body := (.seq (.ops [
  ⟨some [t, t], .move (.c (.bool f)), none⟩])
 (.seq (.ops [
  ⟨some [f, f, f], .move (.s [t]), none⟩,
  ⟨some [t, f, f], .bin .geq (.s [f, f, f]) (.c (.int .i64 0)), none⟩,
  ⟨some [f, t, f], .move (.s [t, f, f]), none⟩,
  ⟨some [t, t, f], .move (.s [t]), some ([f, t, f], t)⟩,
  ⟨some [f, f, t], .move (.s [f]), some ([f, t, f], t)⟩,
  ⟨some [t, f, t], .bin .lss (.s [t, t, f]) (.s [f, f, t]), some ([f, t, f], t)⟩,
  ⟨some [f, t, t], .pick (.s [f, t, f]) (.s [t, f, t]) (.c (.bool f)), none⟩,
  ⟨some [t, t, t], .move (.s [f, t, t]), none⟩,
  ⟨some [f, f, f, f], .move (.s [f]), some ([t, t, t], t)⟩,
  ⟨some [t, f, f, f], .move (.s []), some ([t, t, t], t)⟩,
  ⟨some [f, t, f, f], .bin .leq (.s [f, f, f, f]) (.s [t, f, f, f]), some ([t, t, t], t)⟩,
  ⟨some [t, t, f, f], .pick (.s [t, t, t]) (.s [f, t, f, f]) (.c (.bool f)), none⟩,
  ⟨some [t, t], .move (.s [t, t, f, f]), none⟩])
 .ret)) } : CFunc)) false true
-- numnah/numnahref05.Accepts
-- c31_l0: live slots [0, 1, 2, 3, 9, 10]
def c31_b0 : CCode := (fun (f t : Bool) => ((.seq (.seq (.ops [
  ⟨some [f, f, t], .move (.s [t, t, f]), none⟩,
  ⟨some [t, f, t], .move (.s [f, f]), none⟩,
  ⟨some [f, t, t], .bin .leq (.s [f, f, t]) (.s [t, f, t]), none⟩])
 (.cond (.s [f, t, t]) .skip (.exit 0)))
 (.seq (.block 1 (.ops [
  ⟨some [t, f, f, f], .move (.s [f, t, f]), none⟩,
  ⟨some [f, t, f, f], .move (.s [t]), none⟩,
  ⟨some [t, t, f, f], .move (.s [t, t, f]), none⟩,
  ⟨some [f, f, t, f], .call f (.c (.func 29 [])) [(.s [f, t, f, f]), (.s [t, t, f, f])], none⟩,
  ⟨some [t, f, t, f], .move (.s []), none⟩,
  ⟨some [f, t, t, f], .move (.s [t]), none⟩,
  ⟨some [t, t, t, f], .bin .sub (.s [t, f, t, f]) (.s [f, t, t, f]), none⟩,
  ⟨some [f, f, f, t], .move (.s [f]), none⟩,
  ⟨some [t, f, f, t], .move (.s [t, t, f]), none⟩,
  ⟨some [f, t, f, t], .bin .sub (.s [f, f, f, t]) (.s [t, f, f, t]), none⟩,
  ⟨some [t, t, f, t], .call f (.c (.func 29 [])) [(.s [t, t, t, f]), (.s [f, t, f, t])], none⟩,
  ⟨some [f, f, t, t], .bin .mul (.s [f, f, t, f]) (.s [t, t, f, t]), none⟩,
  ⟨some [t, f, t, t], .bin .add (.s [t, f, f, f]) (.s [f, f, t, t]), none⟩,
  ⟨some [f, t, f], .move (.s [t, f, t, t]), none⟩]))
 (.ops [
  ⟨some [t, t, t], .move (.s [t, t, f]), none⟩,
  ⟨some [f, f, f, f], .bin .add (.s [t, t, t]) (.c (.int .i64 1)), none⟩,
  ⟨some [t, t, f], .move (.s [f, f, f, f]), none⟩]))) : CCode)) false true
def c31_l0 : CCode := (fun (f t : Bool) => (.loop [[], [f], [t], [f, f], [f, t, f], [t, t, f]] c31_b0 : CCode)) false true
def c31 : CFunc := (fun (f t : Bool) => ({ params := [[], [f], [t], [f, f]], results := [.slot [t, f, f]], shared := f, body := (.seq (.ops [
  ⟨some [t, f, f], .move (.c (.int .i64 0)), none⟩])
 (.seq (.ops [
  ⟨some [f, t, f], .move (.c (.int .i64 0)), none⟩])
 (.seq (.seq (.ops [
  ⟨some [t, t, f], .move (.c (.int .i64 0)), none⟩])
 (.block 0 c31_l0))
 (.seq (.ops [
  ⟨some [f, t, t, t], .move (.s [f, t, f]), none⟩,
  ⟨some [t, f, f], .move (.s [f, t, t, t]), none⟩])
 .ret)))) } : CFunc)) false true
-- numnah/sample.Curtail
-- c32_o0: 0=[] 1=[f] 2=[t]
-- c32_o1: 0=[] 1=[f] 2=[t] 6=[t, t]
-- c32_o2: 6=[t, t]
-- c32_o3: 1=[f] 2=[t] 6=[t, t]
-- c32_o4: 1=[f] 2=[t] 6=[t, t] 8=[t, f, f]
-- c32_o5: 1=[f] 2=[t] 6=[t, t] 8=[t, f, f] 9=[f, t, f]
-- c32_o6: 1=[f] 2=[t] 6=[t, t] 8=[t, f, f] 9=[f, t, f]
-- c32_o7: 1=[f] 2=[t] 6=[t, t] 8=[t, f, f] 9=[f, t, f]
-- c32_l0: live slots [1, 2, 6, 8, 9]
-- c32_o8: 6=[t, t] 8=[t, f, f]
def c32_o0 : CCode := (fun (f t : Bool) => (.trim [[], [f], [t]] (.ops [
  ⟨some [t, t], .alloc none [.nils, .nils], none⟩,
  ⟨some [f, f, f], .move (.c (.int .i64 0)), none⟩]) : CCode)) false true
def c32_o1 : CCode := (fun (f t : Bool) => (.trim [[], [f], [t], [t, t]] (.ops [
  ⟨some [t, t, f], .move (.s []), none⟩,
  ⟨some [f, f, t], .call f (.c (.func 52 [])) [(.s [t, t, f]), (.c (.int .i64 0))], none⟩,
  ⟨some [t, f, t], .un .not (.s [f, f, t]), none⟩,
  ⟨some [f, t, t], .move (.s [t, f, t]), none⟩,
  ⟨some [t, t, t], .move (.s []), some ([f, t, t], f)⟩,
  ⟨some [f, f, f, f], .move (.s [f]), some ([f, t, t], f)⟩,
  ⟨some [t, f, f, f], .move (.s [t]), some ([f, t, t], f)⟩,
  ⟨some [f, t, f, f], .call f (.c (.func 60 [])) [(.s [t, t, t]), (.s [f, f, f, f]), (.s [t, f, f, f])], some ([f, t, t], f)⟩,
  ⟨some [t, t, f, f], .un .not (.s [f, t, f, f]), some ([f, t, t], f)⟩,
  ⟨some [f, f, t, f], .pick (.s [f, t, t]) (.c (.bool t)) (.s [t, t, f, f]), none⟩]) : CCode)) false true
def c32_o2 : CCode := (fun (f t : Bool) => (.trim [[t, t]] (.ops [
  ⟨some [t, f, t, f], .build [.nils, .nils] [], none⟩,
  ⟨none, .store 2 (.s [t, t]) (.s [t, f, t, f]), none⟩,
  ⟨some [f, f, f], .move (.c (.int .i64 2)), none⟩]) : CCode)) false true
def c32_o3 : CCode := (fun (f t : Bool) => (.trim [[f], [t], [t, t]] (.ops [
  ⟨some [f, t, t, f], .move (.s [t]), none⟩,
  ⟨some [t, t, t, f], .bin .add (.s [f, t, t, f]) (.c (.int .i64 1)), none⟩,
  ⟨some [f, f, f, t], .buildSlice none 1 1 [.int .i64 0] [(0, 1, (.s [t, t, t, f]))], none⟩,
  ⟨some [t, f, f, t], .move (.s [f]), none⟩,
  ⟨some [f, t, f, t], .call f (.c (.func 61 [])) [(.s [f, f, f, t]), (.s [t, f, f, t])], none⟩,
  ⟨some [t, t, f, t], .build [.nils, .nils] [(1, 1, (.s [f, t, f, t]))], none⟩,
  ⟨some [t, f, f], .alloc none [.nils, .nils], none⟩,
  ⟨none, .store 2 (.s [t, f, f]) (.s [t, t, f, t]), none⟩]) : CCode)) false true
def c32_o4 : CCode := (fun (f t : Bool) => (.trim [[f], [t], [t, t], [t, f, f]] (.ops [
  ⟨some [f, t, f], .move (.c (.int .i64 1)), none⟩]) : CCode)) false true
def c32_o5 : CCode := (fun (f t : Bool) => (.trim [[f], [t], [t, t], [t, f, f], [f, t, f]] (.ops [
  ⟨some [f, f, t, t], .move (.s [f, t, f]), none⟩,
  ⟨some [t, f, t, t], .move (.s [f]), none⟩,
  ⟨some [f, t, t, t], .bin .leq (.s [f, f, t, t]) (.s [t, f, t, t]), none⟩]) : CCode)) false true
def c32_o6 : CCode := (fun (f t : Bool) => (.trim [[f], [t], [t, t], [t, f, f], [f, t, f]] (.ops [
  ⟨some [t, f, f, f, f], .fieldAddr 0 (.s [t, f, f]), none⟩,
  ⟨some [f, t, f, f, f], .load none (.s [t, f, f, f, f]), none⟩,
  ⟨some [t, t, f, f, f], .move (.s [t]), none⟩,
  ⟨some [f, f, t, f, f], .move (.s [f]), none⟩,
  ⟨some [t, f, t, f, f], .bin .sub (.s [t, t, f, f, f]) (.s [f, f, t, f, f]), none⟩,
  ⟨some [f, t, t, f, f], .move (.s [f, t, f]), none⟩,
  ⟨some [t, t, t, f, f], .bin .add (.s [t, f, t, f, f]) (.s [f, t, t, f, f]), none⟩,
  ⟨some [f, f, f, t, f], .minmax t (.c (.int .i64 (-1))) (.s [t, t, t, f, f]), none⟩,
  ⟨some [t, f, f, t, f], .buildSlice none 1 1 [.int .i64 0] [(0, 1, (.s [f, f, f, t, f]))], none⟩,
  ⟨some [f, t, f, t, f], .append none 1 8 (.s [f, t, f, f, f]) (.s [t, f, f, t, f]), none⟩,
  ⟨some [t, t, f, t, f], .fieldAddr 0 (.s [t, f, f]), none⟩,
  ⟨none, .store 1 (.s [t, t, f, t, f]) (.s [f, t, f, t, f]), none⟩]) : CCode)) false true
def c32_o7 : CCode := (fun (f t : Bool) => (.trim [[f], [t], [t, t], [t, f, f], [f, t, f]] (.ops [
  ⟨some [t, t, t, t], .move (.s [f, t, f]), none⟩,
  ⟨some [f, f, f, f, f], .bin .add (.s [t, t, t, t]) (.c (.int .i64 1)), none⟩,
  ⟨some [f, t, f], .move (.s [f, f, f, f, f]), none⟩]) : CCode)) false true
def c32_b0 : CCode := (fun (f t : Bool) => ((.seq (.seq c32_o5
 (.cond (.s [f, t, t, t]) .skip (.exit 0)))
 (.seq (.block 1 c32_o6)
 c32_o7)) : CCode)) false true
def c32_l0 : CCode := (fun (f t : Bool) => (.loop [[f], [t], [t, t], [t, f, f], [f, t, f]] c32_b0 : CCode)) false true
def c32_o8 : CCode := (fun (f t : Bool) => (.trim [[t, t], [t, f, f]] (.ops [
  ⟨some [f, f, t, t, f], .load (some 2) (.s [t, f, f]), none⟩,
  ⟨none, .store 2 (.s [t, t]) (.s [f, f, t, t, f]), none⟩,
  ⟨some [f, f, f], .move (.c (.int .i64 0)), none⟩]) : CCode)) false true
def c32 : CFunc := (fun (f t : Bool) => ({ params := [[], [f], [t]], results := [.cell [t, t] (some 2), .slot [f, f, f]], shared := f, body := (.seq c32_o0
 (.seq (.seq c32_o1
 (.cond (.s [f, f, t, f]) (.seq c32_o2
 .ret) .skip))
 (.seq c32_o3
 (.seq (.seq c32_o4
 (.block 0 c32_l0))
 (.seq c32_o8
 .ret))))) } : CFunc)) false true
-- numnah/sample.Fits
-- c33_o0: 0=[] 1=[f]
-- c33_o1: 0=[] 3=[f, f]
-- c33_o2: 
-- c33_o3: 
def c33_o0 : CCode := (fun (f t : Bool) => (.trim [[], [f]] (.ops [
  ⟨some [f, f], .box none (.s [f]), none⟩,
  ⟨some [t, f], .move (.c (.int .i64 0)), none⟩]) : CCode)) false true
def c33_o1 : CCode := (fun (f t : Bool) => (.trim [[], [f, f]] (.ops [
  ⟨some [f, t], .move (.s []), none⟩,
  ⟨some [t, t], .call f (.c (.func 52 [])) [(.s [f, t]), (.c (.int .i64 0))], none⟩,
  ⟨some [f, f, f], .un .not (.s [t, t]), none⟩,
  ⟨some [t, f, f], .move (.s [f, f, f]), none⟩,
  ⟨some [f, t, f], .move (.s []), some ([t, f, f], f)⟩,
  ⟨some [t, t, f], .load (some 2) (.s [f, f]), some ([t, f, f], f)⟩,
  ⟨some [f, f, t], .call f (.c (.func 62 [])) [(.s [f, t, f]), (.s [t, t, f])], some ([t, f, f], f)⟩,
  ⟨some [t, f, t], .un .not (.s [f, f, t]), some ([t, f, f], f)⟩,
  ⟨some [f, t, t], .pick (.s [t, f, f]) (.c (.bool t)) (.s [t, f, t]), none⟩]) : CCode)) false true
def c33_o2 : CCode := (fun (f t : Bool) => (.trim [] (.ops [
  ⟨some [t, f], .move (.c (.int .i64 2)), none⟩]) : CCode)) false true
def c33_o3 : CCode := (fun (f t : Bool) => (.trim [] (.ops [
  ⟨some [t, f], .move (.c (.int .i64 0)), none⟩]) : CCode)) false true
def c33 : CFunc := (fun (f t : Bool) => ({ params := [[], [f]], results := [.slot [t, f]], shared := f, body := (.seq c33_o0
 (.seq (.seq c33_o1
 (.cond (.s [f, t, t]) (.seq c33_o2
 .ret) .skip))
 (.seq c33_o3
 .ret))) } : CFunc)) false true
-- numnah/sample.Course
-- c34_o0: 0=[] 1=[f] 2=[t]
-- c34_o1: 0=[] 1=[f] 5=[f, t] 6=[t, t] 7=[f, f, f] 8=[t, f, f]
-- c34_o2: 6=[t, t] 7=[f, f, f]
-- c34_o3: 0=[] 1=[f] 5=[f, t] 6=[t, t] 7=[f, f, f] 8=[t, f, f]
-- c34_o4: 0=[] 1=[f] 5=[f, t] 6=[t, t] 7=[f, f, f] 8=[t, f, f] 9=[f, t, f]
-- c34_o5: 0=[] 1=[f] 5=[f, t] 6=[t, t] 7=[f, f, f] 8=[t, f, f] 9=[f, t, f] 10=[t, t, f] 11=[f, f, t]
-- c34_o6: 10=[t, t, f] 11=[f, f, t] 12=[t, f, t] 13=[f, t, t]
-- c34_o7: 11=[f, f, t] 12=[t, f, t] 13=[f, t, t]
-- c34_o8: 10=[t, t, f] 11=[f, f, t] 32=[t, f, f, f, f] 33=[f, t, f, f, f]
-- c34_o9: 10=[t, t, f] 11=[f, f, t] 12=[t, f, t] 33=[f, t, f, f, f]
-- c34_o10: 0=[] 1=[f] 6=[t, t] 7=[f, f, f] 9=[f, t, f] 10=[t, t, f] 11=[f, f, t]
def c34_o0 : CCode := (fun (f t : Bool) => (.trim [[], [f], [t]] (.ops [
  ⟨some [f, t], .box none (.s [t]), none⟩,
  ⟨some [t, t], .alloc none [.int .i64 0, .int .i64 0], none⟩,
  ⟨some [f, f, f], .alloc none [.int .i64 0, .int .i64 0], none⟩,
  ⟨some [t, f, f], .move (.c (.int .i64 0)), none⟩]) : CCode)) false true
def c34_o1 : CCode := (fun (f t : Bool) => (.trim [[], [f], [f, t], [t, t], [f, f, f], [t, f, f]] (.ops [
  ⟨some [t, t, t], .move (.s []), none⟩,
  ⟨some [f, f, f, f], .move (.s [f]), none⟩,
  ⟨some [t, f, f, f], .call f (.c (.func 52 [])) [(.s [t, t, t]), (.s [f, f, f, f])], none⟩,
  ⟨some [f, t, f, f], .un .not (.s [t, f, f, f]), none⟩,
  ⟨some [t, t, f, f], .move (.s [f, t, f, f]), none⟩,
  ⟨some [f, f, t, f], .move (.s []), some ([t, t, f, f], f)⟩,
  ⟨some [t, f, t, f], .load (some 2) (.s [f, t]), some ([t, t, f, f], f)⟩,
  ⟨some [f, t, t, f], .call f (.c (.func 62 [])) [(.s [f, f, t, f]), (.s [t, f, t, f])], some ([t, t, f, f], f)⟩,
  ⟨some [t, t, t, f], .un .not (.s [f, t, t, f]), some ([t, t, f, f], f)⟩,
  ⟨some [f, f, f, t], .pick (.s [t, t, f, f]) (.c (.bool t)) (.s [t, t, t, f]), none⟩]) : CCode)) false true
def c34_o2 : CCode := (fun (f t : Bool) => (.trim [[t, t], [f, f, f]] (.ops [
  ⟨some [t, f, f, t], .build [.int .i64 0, .int .i64 0] [], none⟩,
  ⟨some [f, t, f, t], .build [.int .i64 0, .int .i64 0] [], none⟩,
  ⟨none, .store 2 (.s [t, t]) (.s [t, f, f, t]), none⟩,
  ⟨none, .store 2 (.s [f, f, f]) (.s [f, t, f, t]), none⟩,
  ⟨some [t, f, f], .move (.c (.int .i64 2)), none⟩]) : CCode)) false true
def c34_o3 : CCode := (fun (f t : Bool) => (.trim [[], [f], [f, t], [t, t], [f, f, f], [t, f, f]] (.ops [
  ⟨some [t, t, f, t], .call f (.c (.func 54 [])) [], none⟩,
  ⟨some [f, t, f], .move (.s [t, t, f, t]), none⟩]) : CCode)) false true
def c34_o4 : CCode := (fun (f t : Bool) => (.trim [[], [f], [f, t], [t, t], [f, f, f], [t, f, f], [f, t, f]] (.ops [
  ⟨some [t, t, f], .alloc none [.int .i64 0], none⟩,
  ⟨some [f, f, t], .alloc none [.int .i64 0], none⟩,
  ⟨none, .store 1 (.s [t, t, f]) (.c (.int .i64 0)), none⟩,
  ⟨none, .store 1 (.s [f, f, t]) (.c (.int .i64 0)), none⟩]) : CCode)) false true
def c34_o5 : CCode := (fun (f t : Bool) => (.trim [[], [f], [f, t], [t, t], [f, f, f], [t, f, f], [f, t, f], [t, t, f], [f, f, t]] (.ops [
  ⟨some [f, f, t, t], .move (.s [f, t, f]), none⟩,
  ⟨some [t, f, t, t], .move (.s []), none⟩,
  ⟨some [f, t, t, t], .move (.s [f]), none⟩,
  ⟨some [t, t, t, t], .load (some 2) (.s [f, t]), none⟩,
  ⟨some [f, f, f, f, f], .call f (.c (.func 63 [])) [(.s [f, f, t, t]), (.s [t, f, t, t]), (.s [f, t, t, t]), (.s [t, t, t, t])], none⟩]) : CCode)) false true
def c34_o6 : CCode := (fun (f t : Bool) => (.trim [[t, t, f], [f, f, t], [t, f, t], [f, t, t]] (.ops [
  ⟨some [t, t, f, f, f], .load none (.s [t, t, f]), none⟩,
  ⟨some [f, f, t, f, f], .fieldAddr 0 (.s [f, t, t]), none⟩,
  ⟨some [t, f, t, f, f], .load none (.s [f, f, t, f, f]), none⟩,
  ⟨some [f, t, t, f, f], .bin .add (.s [t, t, f, f, f]) (.s [t, f, t, f, f]), none⟩,
  ⟨none, .store 1 (.s [t, t, f]) (.s [f, t, t, f, f]), none⟩]) : CCode)) false true
def c34_o7 : CCode := (fun (f t : Bool) => (.trim [[f, f, t], [t, f, t], [f, t, t]] (.ops [
  ⟨some [t, t, t, f, f], .load none (.s [f, f, t]), none⟩,
  ⟨some [f, f, f, t, f], .move (.s [t, f, t]), none⟩,
  ⟨some [t, f, f, t, f], .fieldAddr 0 (.s [f, t, t]), none⟩,
  ⟨some [f, t, f, t, f], .load none (.s [t, f, f, t, f]), none⟩,
  ⟨some [t, t, f, t, f], .fieldAddr 1 (.s [f, t, t]), none⟩,
  ⟨some [f, f, t, t, f], .load none (.s [t, t, f, t, f]), none⟩,
  ⟨some [t, f, t, t, f], .bin .add (.s [f, t, f, t, f]) (.s [f, f, t, t, f]), none⟩,
  ⟨some [f, t, t, t, f], .bin .mul (.s [f, f, f, t, f]) (.s [t, f, t, t, f]), none⟩,
  ⟨some [t, t, t, t, f], .bin .add (.s [t, t, t, f, f]) (.s [f, t, t, t, f]), none⟩,
  ⟨none, .store 1 (.s [f, f, t]) (.s [t, t, t, t, f]), none⟩]) : CCode)) false true
def c34_r0 : CCode := (.block 1 (.seq c34_o6
 c34_o7))
def c34_o8 : CCode := (fun (f t : Bool) => (.trim [[t, t, f], [f, f, t], [t, f, f, f, f], [f, t, f, f, f]] (.ops [
  ⟨some [t, f, t], .move (.s [t, f, f, f, f]), none⟩]) : CCode)) false true
def c34_o9 : CCode := (fun (f t : Bool) => (.trim [[t, t, f], [f, f, t], [t, f, t], [f, t, f, f, f]] (.ops [
  ⟨some [f, t, t], .alloc none [.int .i64 0, .int .i64 0], none⟩,
  ⟨none, .store 2 (.s [f, t, t]) (.s [f, t, f, f, f]), none⟩]) : CCode)) false true
def c34_o10 : CCode := (fun (f t : Bool) => (.trim [[], [f], [t, t], [f, f, f], [f, t, f], [t, t, f], [f, f, t]] (.draw 0 [
  ⟨some [f, f, f, f, t], .load none (.s [t, t, f]), none⟩,
  ⟨some [t, f, f, f, t], .move (.s [f, t, f]), none⟩,
  ⟨some [f, t, f, f, t], .move (.s []), none⟩,
  ⟨some [t, t, f, f, t], .move (.s [f]), none⟩,
  ⟨some [f, f, t, f, t], .call f (.c (.func 58 [])) [(.s [t, f, f, f, t]), (.s [f, t, f, f, t]), (.s [t, t, f, f, t])], none⟩,
  ⟨some [t, f, t, f, t], .call f (.c (.func 56 [])) [(.s [f, f, f, f, t]), (.s [f, f, t, f, t])], none⟩,
  ⟨some [f, t, t, f, t], .load none (.s [f, f, t]), none⟩,
  ⟨some [t, t, t, f, t], .move (.s [f, t, f]), none⟩,
  ⟨some [f, f, f, t, t], .move (.s []), none⟩,
  ⟨some [t, f, f, t, t], .move (.s [f]), none⟩,
  ⟨some [f, t, f, t, t], .call f (.c (.func 58 [])) [(.s [t, t, t, f, t]), (.s [f, f, f, t, t]), (.s [t, f, f, t, t])], none⟩,
  ⟨some [t, t, f, t, t], .call f (.c (.func 56 [])) [(.s [f, t, t, f, t]), (.s [f, t, f, t, t])], none⟩,
  ⟨none, .store 2 (.s [t, t]) (.s [t, f, t, f, t]), none⟩,
  ⟨none, .store 2 (.s [f, f, f]) (.s [t, t, f, t, t]), none⟩,
  ⟨some [t, f, f], .move (.c (.int .i64 0)), none⟩]
  [(0, 4), (0, 6), (4, 6), (5, 6), (6, 10)] [[], [], [], [], [1, 2, 3], (r 5), [], [], [], [], (r 6 ++ [7, 8, 9]), (r 11), (r 12), (r 13), (r 14)]) : CCode)) false true
def c34 : CFunc := (fun (f t : Bool) => ({ params := [[], [f], [t]], results := [.cell [t, t] (some 2), .cell [f, f, f] (some 2), .slot [t, f, f]], shared := f, body := (.seq c34_o0
 (.seq (.seq c34_o1
 (.cond (.s [f, f, f, t]) (.seq c34_o2
 .ret) .skip))
 (.seq c34_o3
 (.seq c34_o4
 (.seq (.seq c34_o5
 (.block 0 (.range (.s [f, f, f, f, f]) [[t, f, f, f, f], [f, t, f, f, f]] (.seq c34_o8
 c34_o9) c34_r0)))
 (.seq c34_o10
 .ret)))))) } : CFunc)) false true
-- numnah/numnahlaw05.course
-- c38_o0: 0=[]
-- c38_o1: 1=[f] 2=[t]
def c38_o0 : CCode := (fun (f t : Bool) => (.trim [[]] (.ops [
  ⟨some [f], .box none (.s []), none⟩,
  ⟨some [t], .alloc none [.nils, .nils], none⟩]) : CCode)) false true
def c38_o1 : CCode := (fun (f t : Bool) => (.trim [[f], [t]] (.draw 0 [
  ⟨some [f, f], .fieldAddr 0 (.s [f]), none⟩,
  ⟨some [t, f], .load none (.s [f, f]), none⟩,
  ⟨some [f, t], .call f (.c (.func 64 [])) [(.s [t, f])], none⟩,
  ⟨some [t, t], .fieldAddr 1 (.s [f]), none⟩,
  ⟨some [f, f, f], .load none (.s [t, t]), none⟩,
  ⟨some [t, f, f], .call f (.c (.func 64 [])) [(.s [f, f, f])], none⟩,
  ⟨some [f, t, f], .build [.nils, .nils] [(0, 1, (.s [f, t])), (1, 1, (.s [t, f, f]))], none⟩,
  ⟨none, .store 2 (.s [t]) (.s [f, t, f]), none⟩]
  [(1, 4), (2, 4)] [[], [0], [0, 1], [], [3], (r 5), (r 6), (r 7)]) : CCode)) false true
def c38 : CFunc := (fun (f t : Bool) => ({ params := [[]], results := [.cell [t] (some 2)], shared := f, body := (.seq c38_o0
 (.seq c38_o1
 .ret)) } : CFunc)) false true
-- numnah/sample.Chances
-- c39_o0: 0=[] 1=[f] 2=[t]
-- c39_o1: 3=[f, f] 4=[t, f] 5=[f, t] 6=[t, t] 7=[f, f, f] 8=[t, f, f]
-- c39_o2: 
-- c39_o3: 3=[f, f] 4=[t, f] 5=[f, t] 6=[t, t] 7=[f, f, f] 8=[t, f, f]
-- c39_o4: 3=[f, f] 4=[t, f] 5=[f, t] 6=[t, t] 7=[f, f, f] 8=[t, f, f] 9=[f, t, f]
-- c39_o5: 3=[f, f] 4=[t, f] 5=[f, t] 6=[t, t] 7=[f, f, f] 8=[t, f, f] 9=[f, t, f] 10=[t, t, f] 11=[f, f, t]
-- c39_o6: 3=[f, f] 4=[t, f] 9=[f, t, f] 10=[t, t, f] 11=[f, f, t] 13=[f, t, t]
-- c39_o7: 3=[f, f] 4=[t, f] 9=[f, t, f] 11=[f, f, t] 13=[f, t, t]
-- c39_o8: 3=[f, f] 4=[t, f] 9=[f, t, f] 10=[t, t, f] 11=[f, f, t] 31=[f, f, f, f, f]
-- c39_o9: 10=[t, t, f] 11=[f, f, t]
def c39_o0 : CCode := (fun (f t : Bool) => (.trim [[], [f], [t]] (.ops [
  ⟨some [f, f], .box none (.s []), none⟩,
  ⟨some [t, f], .box none (.s [f]), none⟩,
  ⟨some [f, t], .box none (.s [t]), none⟩,
  ⟨some [t, t], .move (.c (.nils)), none⟩,
  ⟨some [f, f, f], .move (.c (.nils)), none⟩,
  ⟨some [t, f, f], .move (.c (.int .i64 0)), none⟩]) : CCode)) false true
def c39_o1 : CCode := (fun (f t : Bool) => (.trim [[f, f], [t, f], [f, t], [t, t], [f, f, f], [t, f, f]] (.ops [
  ⟨some [t, t, t], .load none (.s [f, f]), none⟩,
  ⟨some [f, f, f, f], .load none (.s [t, f]), none⟩,
  ⟨some [t, f, f, f], .call f (.c (.func 52 [])) [(.s [t, t, t]), (.s [f, f, f, f])], none⟩,
  ⟨some [f, t, f, f], .un .not (.s [t, f, f, f]), none⟩,
  ⟨some [t, t, f, f], .move (.s [f, t, f, f]), none⟩,
  ⟨some [f, f, t, f], .load none (.s [f, f]), some ([t, t, f, f], f)⟩,
  ⟨some [t, f, t, f], .load (some 2) (.s [f, t]), some ([t, t, f, f], f)⟩,
  ⟨some [f, t, t, f], .call f (.c (.func 62 [])) [(.s [f, f, t, f]), (.s [t, f, t, f])], some ([t, t, f, f], f)⟩,
  ⟨some [t, t, t, f], .un .not (.s [f, t, t, f]), some ([t, t, f, f], f)⟩,
  ⟨some [f, f, f, t], .pick (.s [t, t, f, f]) (.c (.bool t)) (.s [t, t, t, f]), none⟩]) : CCode)) false true
def c39_o2 : CCode := (fun (f t : Bool) => (.trim [] (.ops [
  ⟨some [t, t], .move (.c (.nils)), none⟩,
  ⟨some [f, f, f], .move (.c (.nils)), none⟩,
  ⟨some [t, f, f], .move (.c (.int .i64 2)), none⟩]) : CCode)) false true
def c39_o3 : CCode := (fun (f t : Bool) => (.trim [[f, f], [t, f], [f, t], [t, t], [f, f, f], [t, f, f]] (.ops [
  ⟨some [t, f, f, t], .call f (.c (.func 54 [])) [], none⟩,
  ⟨some [f, t, f], .alloc none [.nilp], none⟩,
  ⟨none, .store 1 (.s [f, t, f]) (.s [t, f, f, t]), none⟩]) : CCode)) false true
def c39_o4 : CCode := (fun (f t : Bool) => (.trim [[f, f], [t, f], [f, t], [t, t], [f, f, f], [t, f, f], [f, t, f]] (.ops [
  ⟨some [t, t, f], .alloc none [.nils], none⟩,
  ⟨some [f, f, t], .alloc none [.nils], none⟩]) : CCode)) false true
def c39_o5 : CCode := (fun (f t : Bool) => (.trim [[f, f], [t, f], [f, t], [t, t], [f, f, f], [t, f, f], [f, t, f], [t, t, f], [f, f, t]] (.ops [
  ⟨some [f, t, f, t], .load none (.s [f, t, f]), none⟩,
  ⟨some [t, t, f, t], .load none (.s [f, f]), none⟩,
  ⟨some [f, f, t, t], .load none (.s [t, f]), none⟩,
  ⟨some [t, f, t, t], .load (some 2) (.s [f, t]), none⟩,
  ⟨some [f, t, t, t], .call f (.c (.func 63 [])) [(.s [f, t, f, t]), (.s [t, t, f, t]), (.s [f, f, t, t]), (.s [t, f, t, t])], none⟩]) : CCode)) false true
def c39_o6 : CCode := (fun (f t : Bool) => (.trim [[f, f], [t, f], [f, t, f], [t, t, f], [f, f, t], [f, t, t]] (.draw 2 [
  ⟨some [t, f, f, f, f], .load none (.s [t, t, f]), none⟩,
  ⟨some [f, t, f, f, f], .fieldAddr 0 (.s [f, t, t]), none⟩,
  ⟨some [t, t, f, f, f], .load none (.s [f, t, f, f, f]), none⟩,
  ⟨some [f, f, t, f, f], .load none (.s [f, t, f]), none⟩,
  ⟨some [t, f, t, f, f], .load none (.s [f, f]), none⟩,
  ⟨some [f, t, t, f, f], .load none (.s [t, f]), none⟩,
  ⟨some [t, t, t, f, f], .call f (.c (.func 58 [])) [(.s [f, f, t, f, f]), (.s [t, f, t, f, f]), (.s [f, t, t, f, f])], none⟩,
  ⟨some [f, f, f, t, f], .call f (.c (.func 56 [])) [(.s [t, t, f, f, f]), (.s [t, t, t, f, f])], none⟩,
  ⟨some [t, f, f, t, f], .buildSlice (some 0) 2 1 [.int .i64 0, .int .i64 0] [(0, 2, (.s [f, f, f, t, f]))], none⟩,
  ⟨some [f, t, f, t, f], .append (some 1) 2 16 (.s [t, f, f, f, f]) (.s [t, f, f, t, f]), none⟩,
  ⟨none, .store 1 (.s [t, t, f]) (.s [f, t, f, t, f]), none⟩]
  [(0, 2), (0, 3), (2, 3), (0, 4), (2, 4), (3, 4), (0, 5), (2, 5), (3, 5), (4, 5), (0, 6), (2, 6), (0, 7), (0, 8)] [[], [], [1], [], [], [], [3, 4, 5], [1, 2, 3, 4, 5, 6], [1, 2, 3, 4, 5, 6, 7], (r 9), (r 10)]) : CCode)) false true
def c39_o7 : CCode := (fun (f t : Bool) => (.trim [[f, f], [t, f], [f, t, f], [f, f, t], [f, t, t]] (.draw 2 [
  ⟨some [t, t, f, t, f], .load none (.s [f, f, t]), none⟩,
  ⟨some [f, f, t, t, f], .fieldAddr 1 (.s [f, t, t]), none⟩,
  ⟨some [t, f, t, t, f], .load none (.s [f, f, t, t, f]), none⟩,
  ⟨some [f, t, t, t, f], .load none (.s [f, t, f]), none⟩,
  ⟨some [t, t, t, t, f], .load none (.s [f, f]), none⟩,
  ⟨some [f, f, f, f, t], .load none (.s [t, f]), none⟩,
  ⟨some [t, f, f, f, t], .call f (.c (.func 58 [])) [(.s [f, t, t, t, f]), (.s [t, t, t, t, f]), (.s [f, f, f, f, t])], none⟩,
  ⟨some [f, t, f, f, t], .call f (.c (.func 56 [])) [(.s [t, f, t, t, f]), (.s [t, f, f, f, t])], none⟩,
  ⟨some [t, t, f, f, t], .buildSlice (some 0) 2 1 [.int .i64 0, .int .i64 0] [(0, 2, (.s [f, t, f, f, t]))], none⟩,
  ⟨some [f, f, t, f, t], .append (some 1) 2 16 (.s [t, t, f, t, f]) (.s [t, t, f, f, t]), none⟩,
  ⟨none, .store 1 (.s [f, f, t]) (.s [f, f, t, f, t]), none⟩]
  [(0, 2), (0, 3), (2, 3), (0, 4), (2, 4), (3, 4), (0, 5), (2, 5), (3, 5), (4, 5), (0, 6), (2, 6), (0, 7), (0, 8)] [[], [], [1], [], [], [], [3, 4, 5], [1, 2, 3, 4, 5, 6], [1, 2, 3, 4, 5, 6, 7], (r 9), (r 10)]) : CCode)) false true
def c39_r0 : CCode := (.block 1 (.seq c39_o6
 c39_o7))
def c39_o8 : CCode := (fun (f t : Bool) => (.trim [[f, f], [t, f], [f, t, f], [t, t, f], [f, f, t], [f, f, f, f, f]] (.ops [
  ⟨some [f, t, t], .alloc none [.int .i64 0, .int .i64 0], none⟩,
  ⟨none, .store 2 (.s [f, t, t]) (.s [f, f, f, f, f]), none⟩]) : CCode)) false true
def c39_o9 : CCode := (fun (f t : Bool) => (.trim [[t, t, f], [f, f, t]] (.draw 0 [
  ⟨some [t, f, t, f, t], .load none (.s [t, t, f]), none⟩,
  ⟨some [f, t, t, f, t], .load none (.s [f, f, t]), none⟩,
  ⟨some [t, t], .move (.s [t, f, t, f, t]), none⟩,
  ⟨some [f, f, f], .move (.s [f, t, t, f, t]), none⟩,
  ⟨some [t, f, f], .move (.c (.int .i64 0)), none⟩]
  [(0, 1)] [[], [], [0], [0, 1, 2], [0, 1, 2, 3]]) : CCode)) false true
def c39 : CFunc := (fun (f t : Bool) => ({ params := [[], [f], [t]], results := [.slot [t, t], .slot [f, f, f], .slot [t, f, f]], shared := f, body := (.seq c39_o0
 (.seq (.seq c39_o1
 (.cond (.s [f, f, f, t]) (.seq c39_o2
 .ret) .skip))
 (.seq c39_o3
 (.seq c39_o4
 (.seq (.seq c39_o5
 (.block 0 (.range (.s [f, t, t, t]) [[t, t, t, t], [f, f, f, f, f]] c39_o8 c39_r0)))
 (.seq c39_o9
 .ret)))))) } : CFunc)) false true
-- numnah/numnahref05.Fits
-- c40_o0: 0=[] 1=[f]
-- c40_o1: 0=[] 3=[f, f]
-- c40_o2: 0=[] 3=[f, f] 5=[f, t]
-- c40_o3: 
-- c40_o4: 3=[f, f] 5=[f, t]
-- c40_o5: 3=[f, f] 5=[f, t] 6=[t, t]
-- c40_o6: 3=[f, f] 5=[f, t] 6=[t, t]
-- c40_o7: 3=[f, f] 5=[f, t] 6=[t, t] 7=[f, f, f] 8=[t, f, f]
-- c40_o8: 
-- c40_o9: 3=[f, f] 5=[f, t] 6=[t, t]
-- c40_l0: live slots [3, 5, 6]
-- c40_o10: 3=[f, f] 5=[f, t]
def c40_o0 : CCode := (fun (f t : Bool) => (.trim [[], [f]] (.ops [
  ⟨some [f, f], .box none (.s [f]), none⟩,
  ⟨some [t, f], .move (.c (.bool f)), none⟩]) : CCode)) false true
def c40_o1 : CCode := (fun (f t : Bool) => (.trim [[], [f, f]] (.ops [
  ⟨some [f, t, f], .fieldAddr 0 (.s [f, f]), none⟩,
  ⟨some [t, t, f], .load none (.s [f, t, f]), none⟩,
  ⟨some [f, f, t], .len 1 (.s [t, t, f]), none⟩,
  ⟨some [f, t], .move (.s [f, f, t]), none⟩]) : CCode)) false true
def c40_o2 : CCode := (fun (f t : Bool) => (.trim [[], [f, f], [f, t]] (.ops [
  ⟨some [t, f, t], .fieldAddr 1 (.s [f, f]), none⟩,
  ⟨some [f, t, t], .load none (.s [t, f, t]), none⟩,
  ⟨some [t, t, t], .len 1 (.s [f, t, t]), none⟩,
  ⟨some [f, f, f, f], .move (.s [f, t]), none⟩,
  ⟨some [t, f, f, f], .bin .neq (.s [t, t, t]) (.s [f, f, f, f]), none⟩,
  ⟨some [f, t, f, f], .move (.s [t, f, f, f]), none⟩,
  ⟨some [t, t, f, f], .move (.s [f, t]), some ([f, t, f, f], f)⟩,
  ⟨some [f, f, t, f], .bin .lss (.s [t, t, f, f]) (.c (.int .i64 1)), some ([f, t, f, f], f)⟩,
  ⟨some [t, f, t, f], .pick (.s [f, t, f, f]) (.c (.bool t)) (.s [f, f, t, f]), none⟩,
  ⟨some [f, t, t, f], .move (.s [t, f, t, f]), none⟩,
  ⟨some [t, t, t, f], .move (.s [f, t]), some ([f, t, t, f], f)⟩,
  ⟨some [f, f, f, t], .move (.s []), some ([f, t, t, f], f)⟩,
  ⟨some [t, f, f, t], .bin .gtr (.s [t, t, t, f]) (.s [f, f, f, t]), some ([f, t, t, f], f)⟩,
  ⟨some [f, t, f, t], .pick (.s [f, t, t, f]) (.c (.bool t)) (.s [t, f, f, t]), none⟩]) : CCode)) false true
def c40_o3 : CCode := (fun (f t : Bool) => (.trim [] (.ops [
  ⟨some [t, f], .move (.c (.bool f)), none⟩]) : CCode)) false true
def c40_o4 : CCode := (fun (f t : Bool) => (.trim [[f, f], [f, t]] (.ops [
  ⟨some [t, t], .move (.c (.int .i64 0)), none⟩]) : CCode)) false true
def c40_o5 : CCode := (fun (f t : Bool) => (.trim [[f, f], [f, t], [t, t]] (.ops [
  ⟨some [t, t, f, t], .move (.s [t, t]), none⟩,
  ⟨some [f, f, t, t], .move (.s [f, t]), none⟩,
  ⟨some [t, f, t, t], .bin .lss (.s [t, t, f, t]) (.s [f, f, t, t]), none⟩]) : CCode)) false true
def c40_o6 : CCode := (fun (f t : Bool) => (.trim [[f, f], [f, t], [t, t]] (.draw 0 [
  ⟨some [f, f, f, f, f], .fieldAddr 0 (.s [f, f]), none⟩,
  ⟨some [t, f, f, f, f], .load none (.s [f, f, f, f, f]), none⟩,
  ⟨some [f, t, f, f, f], .move (.s [t, t]), none⟩,
  ⟨some [t, t, f, f, f], .idxSl 1 (.s [t, f, f, f, f]) (.s [f, t, f, f, f]), none⟩,
  ⟨some [f, f, t, f, f], .load none (.s [t, t, f, f, f]), none⟩,
  ⟨some [t, f, t, f, f], .fieldAddr 1 (.s [f, f]), none⟩,
  ⟨some [f, t, t, f, f], .load none (.s [t, f, t, f, f]), none⟩,
  ⟨some [t, t, t, f, f], .move (.s [t, t]), none⟩,
  ⟨some [f, f, f, t, f], .idxSl 1 (.s [f, t, t, f, f]) (.s [t, t, t, f, f]), none⟩,
  ⟨some [t, f, f, t, f], .load none (.s [f, f, f, t, f]), none⟩,
  ⟨some [f, f, f], .move (.s [f, f, t, f, f]), none⟩,
  ⟨some [t, f, f], .move (.s [t, f, f, t, f]), none⟩]
  [(1, 6), (4, 6), (1, 9), (4, 9)] [[], [0], [], [0, 1, 2], [0, 1, 2, 3], [], [5], [], [5, 6, 7], [5, 6, 7, 8], (r 5), (r 11)]) : CCode)) false true
def c40_o7 : CCode := (fun (f t : Bool) => (.trim [[f, f], [f, t], [t, t], [f, f, f], [t, f, f]] (.ops [
  ⟨some [f, t, f, t, f], .move (.s [f, f, f]), none⟩,
  ⟨some [t, t, f, t, f], .bin .lss (.s [f, t, f, t, f]) (.c (.int .i64 (-1))), none⟩,
  ⟨some [f, f, t, t, f], .move (.s [t, t, f, t, f]), none⟩,
  ⟨some [t, f, t, t, f], .move (.s [f, f, f]), some ([f, f, t, t, f], f)⟩,
  ⟨some [f, t, t, t, f], .move (.s [f, t]), some ([f, f, t, t, f], f)⟩,
  ⟨some [t, t, t, t, f], .bin .add (.s [f, t, t, t, f]) (.c (.int .i64 1)), some ([f, f, t, t, f], f)⟩,
  ⟨some [f, f, f, f, t], .bin .gtr (.s [t, f, t, t, f]) (.s [t, t, t, t, f]), some ([f, f, t, t, f], f)⟩,
  ⟨some [t, f, f, f, t], .pick (.s [f, f, t, t, f]) (.c (.bool t)) (.s [f, f, f, f, t]), none⟩,
  ⟨some [f, t, f, f, t], .move (.s [t, f, f, f, t]), none⟩,
  ⟨some [t, t, f, f, t], .move (.s [t, f, f]), some ([f, t, f, f, t], f)⟩,
  ⟨some [f, f, t, f, t], .bin .lss (.s [t, t, f, f, t]) (.c (.int .i64 (-1))), some ([f, t, f, f, t], f)⟩,
  ⟨some [t, f, t, f, t], .pick (.s [f, t, f, f, t]) (.c (.bool t)) (.s [f, f, t, f, t]), none⟩,
  ⟨some [f, t, t, f, t], .move (.s [t, f, t, f, t]), none⟩,
  ⟨some [t, t, t, f, t], .move (.s [t, f, f]), some ([f, t, t, f, t], f)⟩,
  ⟨some [f, f, f, t, t], .move (.s [f, t]), some ([f, t, t, f, t], f)⟩,
  ⟨some [t, f, f, t, t], .bin .add (.s [f, f, f, t, t]) (.c (.int .i64 1)), some ([f, t, t, f, t], f)⟩,
  ⟨some [f, t, f, t, t], .bin .gtr (.s [t, t, t, f, t]) (.s [t, f, f, t, t]), some ([f, t, t, f, t], f)⟩,
  ⟨some [t, t, f, t, t], .pick (.s [f, t, t, f, t]) (.c (.bool t)) (.s [f, t, f, t, t]), none⟩,
  ⟨some [f, f, t, t, t], .move (.s [t, t, f, t, t]), none⟩,
  ⟨some [t, f, t, t, t], .move (.s [f, f, f]), some ([f, f, t, t, t], f)⟩,
  ⟨some [f, t, t, t, t], .move (.s [t, f, f]), some ([f, f, t, t, t], f)⟩,
  ⟨some [t, t, t, t, t], .bin .geq (.s [t, f, t, t, t]) (.s [f, t, t, t, t]), some ([f, f, t, t, t], f)⟩,
  ⟨some [f, f, f, f, f, f], .pick (.s [f, f, t, t, t]) (.c (.bool t)) (.s [t, t, t, t, t]), none⟩]) : CCode)) false true
def c40_o8 : CCode := (fun (f t : Bool) => (.trim [] (.ops [
  ⟨some [t, f], .move (.c (.bool f)), none⟩]) : CCode)) false true
def c40_o9 : CCode := (fun (f t : Bool) => (.trim [[f, f], [f, t], [t, t]] (.ops [
  ⟨some [f, t, t, t], .move (.s [t, t]), none⟩,
  ⟨some [t, t, t, t], .bin .add (.s [f, t, t, t]) (.c (.int .i64 1)), none⟩,
  ⟨some [t, t], .move (.s [t, t, t, t]), none⟩]) : CCode)) false true
def c40_b0 : CCode := (fun (f t : Bool) => ((.seq (.seq c40_o5
 (.cond (.s [t, f, t, t]) .skip (.exit 0)))
 (.seq (.block 1 (.seq c40_o6
 (.seq c40_o7
 (.cond (.s [f, f, f, f, f, f]) (.seq c40_o8
 .ret) .skip))))
 c40_o9)) : CCode)) false true
def c40_l0 : CCode := (fun (f t : Bool) => (.loop [[f, f], [f, t], [t, t]] c40_b0 : CCode)) false true
def c40_o10 : CCode := (fun (f t : Bool) => (.trim [[f, f], [f, t]] (.draw 0 [
  ⟨some [t, f, f, f, f, f], .fieldAddr 1 (.s [f, f]), none⟩,
  ⟨some [f, t, f, f, f, f], .load none (.s [t, f, f, f, f, f]), none⟩,
  ⟨some [t, t, f, f, f, f], .move (.s [f, t]), none⟩,
  ⟨some [f, f, t, f, f, f], .bin .sub (.s [t, t, f, f, f, f]) (.c (.int .i64 1)), none⟩,
  ⟨some [t, f, t, f, f, f], .idxSl 1 (.s [f, t, f, f, f, f]) (.s [f, f, t, f, f, f]), none⟩,
  ⟨some [f, t, t, f, f, f], .load none (.s [t, f, t, f, f, f]), none⟩,
  ⟨some [t, t, t, f, f, f], .fieldAddr 0 (.s [f, f]), none⟩,
  ⟨some [f, f, f, t, f, f], .load none (.s [t, t, t, f, f, f]), none⟩,
  ⟨some [t, f, f, t, f, f], .move (.s [f, t]), none⟩,
  ⟨some [f, t, f, t, f, f], .bin .sub (.s [t, f, f, t, f, f]) (.c (.int .i64 1)), none⟩,
  ⟨some [t, t, f, t, f, f], .idxSl 1 (.s [f, f, f, t, f, f]) (.s [f, t, f, t, f, f]), none⟩,
  ⟨some [f, f, t, t, f, f], .load none (.s [t, t, f, t, f, f]), none⟩,
  ⟨some [t, f, t, t, f, f], .bin .add (.s [f, f, t, t, f, f]) (.c (.int .i64 1)), none⟩,
  ⟨some [f, t, t, t, f, f], .bin .eql (.s [f, t, t, f, f, f]) (.s [t, f, t, t, f, f]), none⟩,
  ⟨some [t, f], .move (.s [f, t, t, t, f, f]), none⟩]
  [(1, 7), (5, 7), (1, 11), (5, 11)] [[], [0], [], [2], [0, 1, 2, 3], (r 5), [], [6], [], [8], [6, 7, 8, 9], [6, 7, 8, 9, 10], [6, 7, 8, 9, 10, 11], (r 13), (r 14)]) : CCode)) false true
def c40 : CFunc := (fun (f t : Bool) => ({ params := [[], [f]], results := [.slot [t, f]], shared := f, body := (.seq c40_o0
 (.seq c40_o1
 (.seq (.seq c40_o2
 (.cond (.s [f, t, f, t]) (.seq c40_o3
 .ret) .skip))
 (.seq (.seq c40_o4
 (.block 0 c40_l0))
 (.seq c40_o10
 .ret))))) } : CFunc)) false true
-- numnah/numnahref05.Course
-- c41_o0: 0=[] 1=[f] 2=[t]
-- c41_o1: 0=[] 1=[f] 5=[f, t]
-- c41_o2: 8=[t, f, f] 9=[f, t, f]
-- c41_o3: 8=[t, f, f] 9=[f, t, f] 10=[t, t, f] 11=[f, f, t]
-- c41_o4: 8=[t, f, f] 9=[f, t, f] 10=[t, t, f] 11=[f, f, t] 12=[t, f, t]
-- c41_o5: 8=[t, f, f] 9=[f, t, f] 10=[t, t, f] 11=[f, f, t] 12=[t, f, t]
-- c41_o6: 8=[t, f, f] 9=[f, t, f] 10=[t, t, f] 11=[f, f, t] 12=[t, f, t]
-- c41_o7: 8=[t, f, f] 9=[f, t, f] 10=[t, t, f] 11=[f, f, t] 12=[t, f, t]
-- c41_l0: live slots [8, 9, 10, 11, 12]
-- c41_o8: 10=[t, t, f] 11=[f, f, t]
def c41_o0 : CCode := (fun (f t : Bool) => (.trim [[], [f], [t]] (.ops [
  ⟨some [f, t], .box none (.s [t]), none⟩,
  ⟨some [t, t], .move (.c (.int .i64 0)), none⟩,
  ⟨some [f, f, f], .move (.c (.int .i64 0)), none⟩]) : CCode)) false true
def c41_o1 : CCode := (fun (f t : Bool) => (.trim [[], [f], [f, t]] (.ops [
  ⟨some [t, t, t], .move (.s []), none⟩,
  ⟨some [f, f, f, f], .move (.s [f]), none⟩,
  ⟨some [t, f, f, f], .load (some 2) (.s [f, t]), none⟩,
  ⟨some [f, t, f, f], .call f (.c (.func 42 [])) [(.s [t, t, t]), (.s [f, f, f, f]), (.s [t, f, f, f])], none⟩,
  ⟨some [f, t, t], .move (.s [f, t, f, f]), none⟩,
  ⟨some [t, t, f, f], .extract 0 (.s [f, t, t]), none⟩,
  ⟨some [f, f, t, f], .extract 1 (.s [f, t, t]), none⟩,
  ⟨some [t, f, f], .move (.s [t, t, f, f]), none⟩,
  ⟨some [f, t, f], .move (.s [f, f, t, f]), none⟩]) : CCode)) false true
def c41_o2 : CCode := (fun (f t : Bool) => (.trim [[t, f, f], [f, t, f]] (.ops [
  ⟨some [t, t, f], .move (.c (.int .i64 0)), none⟩,
  ⟨some [f, f, t], .move (.c (.int .i64 0)), none⟩]) : CCode)) false true
def c41_o3 : CCode := (fun (f t : Bool) => (.trim [[t, f, f], [f, t, f], [t, t, f], [f, f, t]] (.ops [
  ⟨some [t, f, t], .move (.c (.int .i64 0)), none⟩]) : CCode)) false true
def c41_o4 : CCode := (fun (f t : Bool) => (.trim [[t, f, f], [f, t, f], [t, t, f], [f, f, t], [t, f, t]] (.ops [
  ⟨some [t, f, t, f], .move (.s [t, f, t]), none⟩,
  ⟨some [f, t, t, f], .move (.s [t, f, f]), none⟩,
  ⟨some [t, t, t, f], .len 1 (.s [f, t, t, f]), none⟩,
  ⟨some [f, f, f, t], .bin .lss (.s [t, f, t, f]) (.s [t, t, t, f]), none⟩]) : CCode)) false true
def c41_o5 : CCode := (fun (f t : Bool) => (.trim [[t, f, f], [f, t, f], [t, t, f], [f, f, t], [t, f, t]] (.ops [
  ⟨some [t, t, f, t], .move (.s [t, t, f]), none⟩,
  ⟨some [f, f, t, t], .move (.s [t, f, f]), none⟩,
  ⟨some [t, f, t, t], .move (.s [t, f, t]), none⟩,
  ⟨some [f, t, t, t], .idxSl 1 (.s [f, f, t, t]) (.s [t, f, t, t]), none⟩,
  ⟨some [t, t, t, t], .load none (.s [f, t, t, t]), none⟩,
  ⟨some [f, f, f, f, f], .bin .add (.s [t, t, f, t]) (.s [t, t, t, t]), none⟩,
  ⟨some [t, t, f], .move (.s [f, f, f, f, f]), none⟩]) : CCode)) false true
def c41_o6 : CCode := (fun (f t : Bool) => (.trim [[t, f, f], [f, t, f], [t, t, f], [f, f, t], [t, f, t]] (.draw 0 [
  ⟨some [t, f, f, f, f], .move (.s [f, f, t]), none⟩,
  ⟨some [f, t, f, f, f], .move (.s [t, f, t]), none⟩,
  ⟨some [t, t, f, f, f], .bin .add (.s [f, t, f, f, f]) (.c (.int .i64 1)), none⟩,
  ⟨some [f, f, t, f, f], .move (.s [t, f, f]), none⟩,
  ⟨some [t, f, t, f, f], .move (.s [t, f, t]), none⟩,
  ⟨some [f, t, t, f, f], .idxSl 1 (.s [f, f, t, f, f]) (.s [t, f, t, f, f]), none⟩,
  ⟨some [t, t, t, f, f], .load none (.s [f, t, t, f, f]), none⟩,
  ⟨some [f, f, f, t, f], .move (.s [f, t, f]), none⟩,
  ⟨some [t, f, f, t, f], .move (.s [t, f, t]), none⟩,
  ⟨some [f, t, f, t, f], .idxSl 1 (.s [f, f, f, t, f]) (.s [t, f, f, t, f]), none⟩,
  ⟨some [t, t, f, t, f], .load none (.s [f, t, f, t, f]), none⟩,
  ⟨some [f, f, t, t, f], .bin .add (.s [t, t, t, f, f]) (.s [t, t, f, t, f]), none⟩,
  ⟨some [t, f, t, t, f], .bin .mul (.s [t, t, f, f, f]) (.s [f, f, t, t, f]), none⟩,
  ⟨some [f, t, t, t, f], .bin .add (.s [t, f, f, f, f]) (.s [t, f, t, t, f]), none⟩,
  ⟨some [f, f, t], .move (.s [f, t, t, t, f]), none⟩]
  [(6, 10)] [[], [], [1], [], [], [3, 4], [3, 4, 5], [], [], [7, 8], [7, 8, 9], [3, 4, 5, 6, 7, 8, 9, 10], [1, 2, 3, 4, 5, 6, 7, 8, 9, 10, 11], (r 13), (r 14)]) : CCode)) false true
def c41_o7 : CCode := (fun (f t : Bool) => (.trim [[t, f, f], [f, t, f], [t, t, f], [f, f, t], [t, f, t]] (.ops [
  ⟨some [t, f, f, t], .move (.s [t, f, t]), none⟩,
  ⟨some [f, t, f, t], .bin .add (.s [t, f, f, t]) (.c (.int .i64 1)), none⟩,
  ⟨some [t, f, t], .move (.s [f, t, f, t]), none⟩]) : CCode)) false true
def c41_b0 : CCode := (fun (f t : Bool) => ((.seq (.seq c41_o4
 (.cond (.s [f, f, f, t]) .skip (.exit 0)))
 (.seq (.block 1 (.seq c41_o5
 c41_o6))
 c41_o7)) : CCode)) false true
def c41_l0 : CCode := (fun (f t : Bool) => (.loop [[t, f, f], [f, t, f], [t, t, f], [f, f, t], [t, f, t]] c41_b0 : CCode)) false true
def c41_o8 : CCode := (fun (f t : Bool) => (.trim [[t, t, f], [f, f, t]] (.ops [
  ⟨some [t, t, t, t, f], .move (.s [t, t, f]), none⟩,
  ⟨some [f, f, f, f, t], .move (.s [f, f, t]), none⟩,
  ⟨some [t, t], .move (.s [t, t, t, t, f]), none⟩,
  ⟨some [f, f, f], .move (.s [f, f, f, f, t]), none⟩]) : CCode)) false true
def c41 : CFunc := (fun (f t : Bool) => ({ params := [[], [f], [t]], results := [.slot [t, t], .slot [f, f, f]], shared := f, body := (.seq c41_o0
 (.seq c41_o1
 (.seq c41_o2
 (.seq (.seq c41_o3
 (.block 0 c41_l0))
 (.seq c41_o8
 .ret))))) } : CFunc)) false true
-- numnah/numnahref05.Chances
-- c42_o0: 0=[] 1=[f] 2=[t]
-- c42_o1: 0=[] 1=[f] 5=[f, t]
-- c42_o2: 0=[] 1=[f] 5=[f, t] 8=[t, f, f]
-- c42_o3: 0=[] 1=[f] 5=[f, t] 8=[t, f, f] 9=[f, t, f] 10=[t, t, f]
-- c42_o4: 0=[] 1=[f] 5=[f, t] 8=[t, f, f] 9=[f, t, f] 10=[t, t, f] 11=[f, f, t]
-- c42_o5: 0=[] 1=[f] 5=[f, t] 8=[t, f, f] 9=[f, t, f] 10=[t, t, f] 11=[f, f, t]
-- c42_o6: 0=[] 1=[f] 5=[f, t] 8=[t, f, f] 9=[f, t, f] 10=[t, t, f] 11=[f, f, t] 12=[t, f, t]
-- c42_o7: 0=[] 1=[f] 5=[f, t] 8=[t, f, f] 9=[f, t, f] 10=[t, t, f] 11=[f, f, t] 12=[t, f, t] 13=[f, t, t] 14=[t, t, t]
-- c42_o8: 0=[] 1=[f] 5=[f, t] 8=[t, f, f] 9=[f, t, f] 10=[t, t, f] 11=[f, f, t] 12=[t, f, t] 13=[f, t, t] 14=[t, t, t] 15=[f, f, f, f]
-- c42_o9: 0=[] 1=[f] 5=[f, t] 8=[t, f, f] 9=[f, t, f] 10=[t, t, f] 11=[f, f, t] 12=[t, f, t] 13=[f, t, t] 14=[t, t, t] 15=[f, f, f, f]
-- c42_o10: 0=[] 1=[f] 5=[f, t] 8=[t, f, f] 9=[f, t, f] 10=[t, t, f] 11=[f, f, t] 12=[t, f, t] 13=[f, t, t] 14=[t, t, t] 15=[f, f, f, f]
-- c42_o11: 0=[] 1=[f] 5=[f, t] 8=[t, f, f] 9=[f, t, f] 10=[t, t, f] 11=[f, f, t] 12=[t, f, t] 13=[f, t, t] 14=[t, t, t] 15=[f, f, f, f]
-- c42_o12: 0=[] 1=[f] 5=[f, t] 8=[t, f, f] 9=[f, t, f] 10=[t, t, f] 11=[f, f, t] 12=[t, f, t] 13=[f, t, t] 14=[t, t, t] 15=[f, f, f, f]
-- c42_o13: 0=[] 1=[f] 5=[f, t] 8=[t, f, f] 9=[f, t, f] 10=[t, t, f] 11=[f, f, t] 12=[t, f, t] 13=[f, t, t] 14=[t, t, t] 15=[f, f, f, f]
-- c42_o14: 0=[] 1=[f] 5=[f, t] 8=[t, f, f] 9=[f, t, f] 10=[t, t, f] 11=[f, f, t] 12=[t, f, t] 13=[f, t, t] 14=[t, t, t] 15=[f, f, f, f] 16=[t, f, f, f]
-- c42_o15: 0=[] 1=[f] 5=[f, t] 8=[t, f, f] 9=[f, t, f] 10=[t, t, f] 11=[f, f, t] 12=[t, f, t] 13=[f, t, t] 14=[t, t, t] 15=[f, f, f, f] 16=[t, f, f, f] 73=[f, t, f, t, f, f]
-- c42_o16: 0=[] 1=[f] 5=[f, t] 8=[t, f, f] 9=[f, t, f] 10=[t, t, f] 11=[f, f, t] 12=[t, f, t] 13=[f, t, t] 14=[t, t, t] 15=[f, f, f, f] 16=[t, f, f, f]
-- c42_o17: 0=[] 1=[f] 5=[f, t] 8=[t, f, f] 9=[f, t, f] 10=[t, t, f] 11=[f, f, t] 12=[t, f, t] 13=[f, t, t] 14=[t, t, t] 15=[f, f, f, f]
-- c42_o18: 0=[] 1=[f] 5=[f, t] 8=[t, f, f] 9=[f, t, f] 10=[t, t, f] 11=[f, f, t] 12=[t, f, t] 13=[f, t, t] 14=[t, t, t] 15=[f, f, f, f] 16=[t, f, f, f] 73=[f, t, f, t, f, f]
-- c42_o19: 0=[] 1=[f] 5=[f, t] 8=[t, f, f] 9=[f, t, f] 10=[t, t, f] 11=[f, f, t] 12=[t, f, t] 13=[f, t, t] 14=[t, t, t] 15=[f, f, f, f] 16=[t, f, f, f]
-- c42_o20: 0=[] 1=[f] 5=[f, t] 8=[t, f, f] 9=[f, t, f] 10=[t, t, f] 11=[f, f, t] 12=[t, f, t] 13=[f, t, t] 14=[t, t, t] 15=[f, f, f, f]
-- c42_o21: 0=[] 1=[f] 5=[f, t] 8=[t, f, f] 9=[f, t, f] 10=[t, t, f] 11=[f, f, t] 12=[t, f, t] 13=[f, t, t] 14=[t, t, t] 15=[f, f, f, f]
-- c42_l0: live slots [0, 1, 5, 8, 9, 10, 11, 12, 13, 14, 15]
-- c42_o22: 0=[] 1=[f] 5=[f, t] 9=[f, t, f] 10=[t, t, f] 11=[f, f, t] 12=[t, f, t] 13=[f, t, t] 14=[t, t, t]
-- c42_o23: 0=[] 1=[f] 5=[f, t] 9=[f, t, f] 10=[t, t, f] 11=[f, f, t] 12=[t, f, t] 14=[t, t, t]
-- c42_o24: 0=[] 1=[f] 5=[f, t] 9=[f, t, f] 10=[t, t, f] 11=[f, f, t] 12=[t, f, t]
-- c42_o25: 0=[] 1=[f] 5=[f, t] 8=[t, f, f] 9=[f, t, f] 10=[t, t, f] 11=[f, f, t]
-- c42_l1: live slots [0, 1, 5, 8, 9, 10, 11]
-- c42_o26: 9=[f, t, f] 10=[t, t, f]
def c42_o0 : CCode := (fun (f t : Bool) => (.trim [[], [f], [t]] (.ops [
  ⟨some [f, t], .box none (.s [t]), none⟩,
  ⟨some [t, t], .move (.c (.nils)), none⟩,
  ⟨some [f, f, f], .move (.c (.nils)), none⟩]) : CCode)) false true
def c42_o1 : CCode := (fun (f t : Bool) => (.trim [[], [f], [f, t]] (.ops [
  ⟨some [f, t, f, f], .buildSlice none 1 1 [.int .i64 0] [(0, 1, (.c (.int .i64 1)))], none⟩,
  ⟨some [t, f, f], .move (.s [f, t, f, f]), none⟩]) : CCode)) false true
def c42_o2 : CCode := (fun (f t : Bool) => (.trim [[], [f], [f, t], [t, f, f]] (.ops [
  ⟨some [f, t, f], .move (.c (.nils)), none⟩,
  ⟨some [t, t, f], .move (.c (.nils)), none⟩]) : CCode)) false true
def c42_o3 : CCode := (fun (f t : Bool) => (.trim [[], [f], [f, t], [t, f, f], [f, t, f], [t, t, f]] (.ops [
  ⟨some [f, f, t], .move (.c (.int .i64 1)), none⟩]) : CCode)) false true
def c42_o4 : CCode := (fun (f t : Bool) => (.trim [[], [f], [f, t], [t, f, f], [f, t, f], [t, t, f], [f, f, t]] (.ops [
  ⟨some [t, t, f, f], .move (.s [f, f, t]), none⟩,
  ⟨some [f, f, t, f], .fieldAddr 0 (.s [f, t]), none⟩,
  ⟨some [t, f, t, f], .load none (.s [f, f, t, f]), none⟩,
  ⟨some [f, t, t, f], .len 1 (.s [t, f, t, f]), none⟩,
  ⟨some [t, t, t, f], .bin .leq (.s [t, t, f, f]) (.s [f, t, t, f]), none⟩]) : CCode)) false true
def c42_o5 : CCode := (fun (f t : Bool) => (.trim [[], [f], [f, t], [t, f, f], [f, t, f], [t, t, f], [f, f, t]] (.ops [
  ⟨some [f, t, f, t], .move (.s [f, f, t]), none⟩,
  ⟨some [t, t, f, t], .bin .add (.s [f, t, f, t]) (.c (.int .i64 1)), none⟩,
  ⟨some [f, f, t, t], .makeSlice none 1 8 [.int .i64 0] (.s [t, t, f, t]), none⟩,
  ⟨some [t, f, t], .move (.s [f, f, t, t]), none⟩]) : CCode)) false true
def c42_o6 : CCode := (fun (f t : Bool) => (.trim [[], [f], [f, t], [t, f, f], [f, t, f], [t, t, f], [f, f, t], [t, f, t]] (.ops [
  ⟨some [f, t, t], .move (.c (.int .i64 0)), none⟩,
  ⟨some [t, t, t], .move (.c (.int .i64 0)), none⟩]) : CCode)) false true
def c42_o7 : CCode := (fun (f t : Bool) => (.trim [[], [f], [f, t], [t, f, f], [f, t, f], [t, t, f], [f, f, t], [t, f, t], [f, t, t], [t, t, t]] (.ops [
  ⟨some [f, f, f, f], .move (.c (.int .i64 0)), none⟩]) : CCode)) false true
def c42_o8 : CCode := (fun (f t : Bool) => (.trim [[], [f], [f, t], [t, f, f], [f, t, f], [t, t, f], [f, f, t], [t, f, t], [f, t, t], [t, t, t], [f, f, f, f]] (.ops [
  ⟨some [t, f, t, t], .move (.s [f, f, f, f]), none⟩,
  ⟨some [f, t, t, t], .move (.s [f, f, t]), none⟩,
  ⟨some [t, t, t, t], .bin .leq (.s [t, f, t, t]) (.s [f, t, t, t]), none⟩]) : CCode)) false true
def c42_o9 : CCode := (fun (f t : Bool) => (.trim [[], [f], [f, t], [t, f, f], [f, t, f], [t, t, f], [f, f, t], [t, f, t], [f, t, t], [t, t, t], [f, f, f, f]] (.ops [
  ⟨some [f, t, f, f, f], .move (.s [f, f, f, f]), none⟩,
  ⟨some [t, t, f, f, f], .move (.s [f, f, t]), none⟩,
  ⟨some [f, f, t, f, f], .bin .lss (.s [f, t, f, f, f]) (.s [t, t, f, f, f]), none⟩]) : CCode)) false true
def c42_o10 : CCode := (fun (f t : Bool) => (.trim [[], [f], [f, t], [t, f, f], [f, t, f], [t, t, f], [f, f, t], [t, f, t], [f, t, t], [t, t, t], [f, f, f, f]] (.ops [
  ⟨some [t, f, t, f, f], .move (.s [t, f, t]), none⟩,
  ⟨some [f, t, t, f, f], .move (.s [f, f, f, f]), none⟩,
  ⟨some [t, t, t, f, f], .move (.s [t, f, f]), none⟩,
  ⟨some [f, f, f, t, f], .move (.s [f, f, f, f]), none⟩,
  ⟨some [t, f, f, t, f], .idxSl 1 (.s [t, t, t, f, f]) (.s [f, f, f, t, f]), none⟩,
  ⟨some [f, t, f, t, f], .load none (.s [t, f, f, t, f]), none⟩,
  ⟨some [t, t, f, t, f], .idxSl 1 (.s [t, f, t, f, f]) (.s [f, t, t, f, f]), none⟩,
  ⟨none, .store 1 (.s [t, t, f, t, f]) (.s [f, t, f, t, f]), none⟩]) : CCode)) false true
def c42_o11 : CCode := (fun (f t : Bool) => (.trim [[], [f], [f, t], [t, f, f], [f, t, f], [t, t, f], [f, f, t], [t, f, t], [f, t, t], [t, t, t], [f, f, f, f]] (.ops [
  ⟨some [f, f, t, t, f], .move (.s [f, f, f, f]), none⟩,
  ⟨some [t, f, t, t, f], .bin .gtr (.s [f, f, t, t, f]) (.c (.int .i64 0)), none⟩]) : CCode)) false true
def c42_o12 : CCode := (fun (f t : Bool) => (.trim [[], [f], [f, t], [t, f, f], [f, t, f], [t, t, f], [f, f, t], [t, f, t], [f, t, t], [t, t, t], [f, f, f, f]] (.draw 0 [
  ⟨some [f, t, t, t, f], .move (.s [t, f, t]), none⟩,
  ⟨some [t, t, t, t, f], .move (.s [f, f, f, f]), none⟩,
  ⟨some [f, f, f, f, t], .move (.s [t, f, t]), none⟩,
  ⟨some [t, f, f, f, t], .move (.s [f, f, f, f]), none⟩,
  ⟨some [f, t, f, f, t], .idxSl 1 (.s [f, f, f, f, t]) (.s [t, f, f, f, t]), none⟩,
  ⟨some [t, t, f, f, t], .load none (.s [f, t, f, f, t]), none⟩,
  ⟨some [f, f, t, f, t], .move (.s [t, f, f]), none⟩,
  ⟨some [t, f, t, f, t], .move (.s [f, f, f, f]), none⟩,
  ⟨some [f, t, t, f, t], .bin .sub (.s [t, f, t, f, t]) (.c (.int .i64 1)), none⟩,
  ⟨some [t, t, t, f, t], .idxSl 1 (.s [f, f, t, f, t]) (.s [f, t, t, f, t]), none⟩,
  ⟨some [f, f, f, t, t], .load none (.s [t, t, t, f, t]), none⟩,
  ⟨some [t, f, f, t, t], .bin .add (.s [t, t, f, f, t]) (.s [f, f, f, t, t]), none⟩,
  ⟨some [f, t, f, t, t], .idxSl 1 (.s [f, t, t, t, f]) (.s [t, t, t, t, f]), none⟩,
  ⟨none, .store 1 (.s [f, t, f, t, t]) (.s [t, f, f, t, t]), none⟩]
  [(5, 10)] [[], [], [], [], [2, 3], [2, 3, 4], [], [], [7], [6, 7, 8], [6, 7, 8, 9], [2, 3, 4, 5, 6, 7, 8, 9, 10], (r 12), (r 13)]) : CCode)) false true
def c42_o13 : CCode := (fun (f t : Bool) => (.trim [[], [f], [f, t], [t, f, f], [f, t, f], [t, t, f], [f, f, t], [t, f, t], [f, t, t], [t, t, t], [f, f, f, f]] (.draw 0 [
  ⟨some [t, t, f, t, t], .move (.s [t, f, t]), none⟩,
  ⟨some [f, f, t, t, t], .move (.s [f, f, f, f]), none⟩,
  ⟨some [t, f, t, t, t], .idxSl 1 (.s [t, t, f, t, t]) (.s [f, f, t, t, t]), none⟩,
  ⟨some [f, t, t, t, t], .load none (.s [t, f, t, t, t]), none⟩,
  ⟨some [t, t, t, t, t], .move (.s []), none⟩,
  ⟨some [f, f, f, f, f, f], .move (.s [f, f, t]), none⟩,
  ⟨some [t, f, f, f, f, f], .bin .sub (.s [t, t, t, t, t]) (.s [f, f, f, f, f, f]), none⟩,
  ⟨some [f, t, f, f, f, f], .move (.s [f]), none⟩,
  ⟨some [t, t, f, f, f, f], .move (.s [f, f, f, f]), none⟩,
  ⟨some [f, f, t, f, f, f], .bin .sub (.s [f, t, f, f, f, f]) (.s [t, t, f, f, f, f]), none⟩,
  ⟨some [t, f, t, f, f, f], .call f (.c (.func 29 [])) [(.s [t, f, f, f, f, f]), (.s [f, f, t, f, f, f])], none⟩,
  ⟨some [f, t, t, f, f, f], .bin .mul (.s [f, t, t, t, t]) (.s [t, f, t, f, f, f]), none⟩,
  ⟨some [t, f, f, f], .move (.s [f, t, t, f, f, f]), none⟩]
  [(3, 10)] [[], [], [0, 1], [0, 1, 2], [], [], [4, 5], [], [], [7, 8], [4, 5, 6, 7, 8, 9], (r 11), (r 12)]) : CCode)) false true
def c42_o14 : CCode := (fun (f t : Bool) => (.trim [[], [f], [f, t], [t, f, f], [f, t, f], [t, t, f], [f, f, t], [t, f, t], [f, t, t], [t, t, t], [f, f, f, f], [t, f, f, f]] (.ops [
  ⟨some [t, t, t, f, f, f], .load (some 2) (.s [f, t]), none⟩,
  ⟨some [f, f, f, t, f, f], .move (.s [f, f, t]), none⟩,
  ⟨some [t, f, f, t, f, f], .move (.s [f, f, f, f]), none⟩,
  ⟨some [f, t, f, t, f, f], .call f (.c (.func 65 [])) [(.s [t, t, t, f, f, f]), (.s [f, f, f, t, f, f]), (.s [t, f, f, t, f, f])], none⟩]) : CCode)) false true
def c42_o15 : CCode := (fun (f t : Bool) => (.trim [[], [f], [f, t], [t, f, f], [f, t, f], [t, t, f], [f, f, t], [t, f, t], [f, t, t], [t, t, t], [f, f, f, f], [t, f, f, f], [f, t, f, t, f, f]] (.ops [
  ⟨some [f, f, t, t, f, f], .bin .eql (.s [f, t, f, t, f, f]) (.c (.int .i64 1)), none⟩,
  ⟨some [t, t, f, t, f, f], .move (.s [f, f, t, t, f, f]), none⟩]) : CCode)) false true
def c42_o16 : CCode := (fun (f t : Bool) => (.trim [[], [f], [f, t], [t, f, f], [f, t, f], [t, t, f], [f, f, t], [t, f, t], [f, t, t], [t, t, t], [f, f, f, f], [t, f, f, f]] (.ops [
  ⟨some [t, f, t, t, f, f], .move (.s [f, t, t]), none⟩,
  ⟨some [f, t, t, t, f, f], .move (.s [t, f, f, f]), none⟩,
  ⟨some [t, t, t, t, f, f], .bin .add (.s [t, f, t, t, f, f]) (.s [f, t, t, t, f, f]), none⟩,
  ⟨some [f, t, t], .move (.s [t, t, t, t, f, f]), none⟩]) : CCode)) false true
def c42_o17 : CCode := (fun (f t : Bool) => (.trim [[], [f], [f, t], [t, f, f], [f, t, f], [t, t, f], [f, f, t], [t, f, t], [f, t, t], [t, t, t], [f, f, f, f]] (.ops [
  ⟨some [f, f, f, f, t, f], .move (.s [t, f, t]), none⟩,
  ⟨some [t, f, f, f, t, f], .move (.s [f, f, f, f]), none⟩,
  ⟨some [f, t, f, f, t, f], .idxSl 1 (.s [f, f, f, f, t, f]) (.s [t, f, f, f, t, f]), none⟩,
  ⟨none, .store 1 (.s [f, t, f, f, t, f]) (.c (.int .i64 0)), none⟩]) : CCode)) false true
def c42_o18 : CCode := (fun (f t : Bool) => (.trim [[], [f], [f, t], [t, f, f], [f, t, f], [t, t, f], [f, f, t], [t, f, t], [f, t, t], [t, t, t], [f, f, f, f], [t, f, f, f], [f, t, f, t, f, f]] (.ops [
  ⟨some [f, f, t, f, t, f], .bin .eql (.s [f, t, f, t, f, f]) (.c (.int .i64 (-1))), none⟩,
  ⟨some [t, t, f, f, t, f], .move (.s [f, f, t, f, t, f]), none⟩]) : CCode)) false true
def c42_o19 : CCode := (fun (f t : Bool) => (.trim [[], [f], [f, t], [t, f, f], [f, t, f], [t, t, f], [f, f, t], [t, f, t], [f, t, t], [t, t, t], [f, f, f, f], [t, f, f, f]] (.ops [
  ⟨some [t, f, t, f, t, f], .move (.s [t, t, t]), none⟩,
  ⟨some [f, t, t, f, t, f], .move (.s [t, f, f, f]), none⟩,
  ⟨some [t, t, t, f, t, f], .bin .add (.s [t, f, t, f, t, f]) (.s [f, t, t, f, t, f]), none⟩,
  ⟨some [t, t, t], .move (.s [t, t, t, f, t, f]), none⟩]) : CCode)) false true
def c42_o20 : CCode := (fun (f t : Bool) => (.trim [[], [f], [f, t], [t, f, f], [f, t, f], [t, t, f], [f, f, t], [t, f, t], [f, t, t], [t, t, t], [f, f, f, f]] (.ops [
  ⟨some [f, f, f, t, t, f], .move (.s [t, f, t]), none⟩,
  ⟨some [t, f, f, t, t, f], .move (.s [f, f, f, f]), none⟩,
  ⟨some [f, t, f, t, t, f], .idxSl 1 (.s [f, f, f, t, t, f]) (.s [t, f, f, t, t, f]), none⟩,
  ⟨none, .store 1 (.s [f, t, f, t, t, f]) (.c (.int .i64 0)), none⟩]) : CCode)) false true
def c42_o21 : CCode := (fun (f t : Bool) => (.trim [[], [f], [f, t], [t, f, f], [f, t, f], [t, t, f], [f, f, t], [t, f, t], [f, t, t], [t, t, t], [f, f, f, f]] (.ops [
  ⟨some [f, f, f, f, f], .move (.s [f, f, f, f]), none⟩,
  ⟨some [t, f, f, f, f], .bin .add (.s [f, f, f, f, f]) (.c (.int .i64 1)), none⟩,
  ⟨some [f, f, f, f], .move (.s [t, f, f, f, f]), none⟩]) : CCode)) false true
def c42_b0 : CCode := (fun (f t : Bool) => ((.seq (.seq c42_o8
 (.cond (.s [t, t, t, t]) .skip (.exit 2)))
 (.seq (.block 3 (.seq (.seq c42_o9
 (.cond (.s [f, f, t, f, f]) c42_o10 .skip))
 (.seq (.seq c42_o11
 (.cond (.s [t, f, t, t, f]) c42_o12 .skip))
 (.seq c42_o13
 (.seq c42_o14
 (.block 4 (.seq c42_o15
 (.cond (.s [t, t, f, t, f, f]) (.seq c42_o16
 c42_o17) (.seq c42_o18
 (.cond (.s [t, t, f, f, t, f]) (.seq c42_o19
 c42_o20) .skip))))))))))
 c42_o21)) : CCode)) false true
def c42_l0 : CCode := (fun (f t : Bool) => (.loop [[], [f], [f, t], [t, f, f], [f, t, f], [t, t, f], [f, f, t], [t, f, t], [f, t, t], [t, t, t], [f, f, f, f]] c42_b0 : CCode)) false true
def c42_o22 : CCode := (fun (f t : Bool) => (.trim [[], [f], [f, t], [f, t, f], [t, t, f], [f, f, t], [t, f, t], [f, t, t], [t, t, t]] (.ops [
  ⟨some [t, t, f, t, t, f], .move (.s [f, t, f]), none⟩,
  ⟨some [f, f, t, t, t, f], .move (.s [f, t, t]), none⟩,
  ⟨some [t, f, t, t, t, f], .buildSlice none 1 1 [.int .i64 0] [(0, 1, (.s [f, f, t, t, t, f]))], none⟩,
  ⟨some [f, t, t, t, t, f], .append none 1 8 (.s [t, t, f, t, t, f]) (.s [t, f, t, t, t, f]), none⟩,
  ⟨some [f, t, f], .move (.s [f, t, t, t, t, f]), none⟩]) : CCode)) false true
def c42_o23 : CCode := (fun (f t : Bool) => (.trim [[], [f], [f, t], [f, t, f], [t, t, f], [f, f, t], [t, f, t], [t, t, t]] (.ops [
  ⟨some [t, t, t, t, t, f], .move (.s [t, t, f]), none⟩,
  ⟨some [f, f, f, f, f, t], .move (.s [t, t, t]), none⟩,
  ⟨some [t, f, f, f, f, t], .buildSlice none 1 1 [.int .i64 0] [(0, 1, (.s [f, f, f, f, f, t]))], none⟩,
  ⟨some [f, t, f, f, f, t], .append none 1 8 (.s [t, t, t, t, t, f]) (.s [t, f, f, f, f, t]), none⟩,
  ⟨some [t, t, f], .move (.s [f, t, f, f, f, t]), none⟩]) : CCode)) false true
def c42_o24 : CCode := (fun (f t : Bool) => (.trim [[], [f], [f, t], [f, t, f], [t, t, f], [f, f, t], [t, f, t]] (.ops [
  ⟨some [t, t, f, f, f, t], .move (.s [t, f, t]), none⟩,
  ⟨some [t, f, f], .move (.s [t, t, f, f, f, t]), none⟩]) : CCode)) false true
def c42_o25 : CCode := (fun (f t : Bool) => (.trim [[], [f], [f, t], [t, f, f], [f, t, f], [t, t, f], [f, f, t]] (.ops [
  ⟨some [f, f, f, t], .move (.s [f, f, t]), none⟩,
  ⟨some [t, f, f, t], .bin .add (.s [f, f, f, t]) (.c (.int .i64 1)), none⟩,
  ⟨some [f, f, t], .move (.s [t, f, f, t]), none⟩]) : CCode)) false true
def c42_b1 : CCode := (fun (f t : Bool) => ((.seq (.seq c42_o4
 (.cond (.s [t, t, t, f]) .skip (.exit 0)))
 (.seq (.block 1 (.seq c42_o5
 (.seq c42_o6
 (.seq (.seq c42_o7
 (.block 2 c42_l0))
 (.seq c42_o22
 (.seq c42_o23
 c42_o24))))))
 c42_o25)) : CCode)) false true
def c42_l1 : CCode := (fun (f t : Bool) => (.loop [[], [f], [f, t], [t, f, f], [f, t, f], [t, t, f], [f, f, t]] c42_b1 : CCode)) false true
def c42_o26 : CCode := (fun (f t : Bool) => (.trim [[f, t, f], [t, t, f]] (.ops [
  ⟨some [f, f, t, f, f, t], .move (.s [f, t, f]), none⟩,
  ⟨some [t, f, t, f, f, t], .move (.s [t, t, f]), none⟩,
  ⟨some [t, t], .move (.s [f, f, t, f, f, t]), none⟩,
  ⟨some [f, f, f], .move (.s [t, f, t, f, f, t]), none⟩]) : CCode)) false true
def c42 : CFunc := (fun (f t : Bool) => ({ params := [[], [f], [t]], results := [.slot [t, t], .slot [f, f, f]], shared := f, body := (.seq c42_o0
 (.seq c42_o1
 (.seq c42_o2
 (.seq (.seq c42_o3
 (.block 0 c42_l1))
 (.seq c42_o26
 .ret))))) } : CFunc)) false true
-- numnah/numnahlaw05.tame
-- c43_o0: 0=[] 1=[f] 2=[t]
-- c43_o1: 0=[] 1=[f] 2=[t] 6=[t, t]
-- c43_o2: 1=[f] 2=[t] 6=[t, t] 7=[f, f, f]
-- c43_o3: 1=[f] 2=[t] 6=[t, t] 7=[f, f, f] 8=[t, f, f]
-- c43_o4: 1=[f] 2=[t] 6=[t, t] 7=[f, f, f] 8=[t, f, f] 9=[f, t, f]
-- c43_o5: 1=[f] 2=[t] 6=[t, t] 7=[f, f, f] 8=[t, f, f] 9=[f, t, f]
-- c43_o6: 1=[f] 2=[t] 6=[t, t] 7=[f, f, f] 8=[t, f, f] 9=[f, t, f] 10=[t, t, f] 11=[f, f, t]
-- c43_o7: 1=[f] 2=[t] 6=[t, t] 7=[f, f, f] 8=[t, f, f] 9=[f, t, f] 11=[f, f, t]
-- c43_o8: 1=[f] 2=[t] 6=[t, t] 7=[f, f, f] 8=[t, f, f] 9=[f, t, f] 10=[t, t, f] 11=[f, f, t]
-- c43_o9: 1=[f] 2=[t] 6=[t, t] 7=[f, f, f] 8=[t, f, f] 9=[f, t, f] 10=[t, t, f]
-- c43_o10: 1=[f] 2=[t] 6=[t, t] 7=[f, f, f] 8=[t, f, f] 9=[f, t, f] 10=[t, t, f] 11=[f, f, t]
-- c43_o11: 1=[f] 2=[t] 6=[t, t] 7=[f, f, f] 8=[t, f, f] 9=[f, t, f] 10=[t, t, f]
-- c43_o12: 1=[f] 2=[t] 6=[t, t] 7=[f, f, f] 8=[t, f, f] 9=[f, t, f] 10=[t, t, f] 11=[f, f, t]
-- c43_o13: 1=[f] 2=[t] 6=[t, t] 7=[f, f, f] 8=[t, f, f] 9=[f, t, f] 10=[t, t, f] 11=[f, f, t]
-- c43_o14: 1=[f] 2=[t] 6=[t, t] 7=[f, f, f] 8=[t, f, f] 9=[f, t, f]
-- c43_l0: live slots [1, 2, 6, 7, 8, 9]
-- c43_o15: 6=[t, t] 8=[t, f, f]
def c43_o0 : CCode := (fun (f t : Bool) => (.trim [[], [f], [t]] (.ops [
  ⟨some [t, t], .alloc none [.nils, .nils], none⟩]) : CCode)) false true
def c43_o1 : CCode := (fun (f t : Bool) => (.trim [[], [f], [t], [t, t]] (.ops [
  ⟨some [t, f, t], .move (.s [f]), none⟩,
  ⟨some [f, t, t], .len 1 (.s [t, f, t]), none⟩,
  ⟨some [t, t, t], .move (.s []), none⟩,
  ⟨some [f, f, f, f], .minmax f (.s [f, t, t]) (.s [t, t, t]), none⟩,
  ⟨some [t, f, f, f], .minmax t (.c (.int .i64 1)) (.s [f, f, f, f]), none⟩,
  ⟨some [f, f, f], .move (.s [t, f, f, f]), none⟩]) : CCode)) false true
def c43_o2 : CCode := (fun (f t : Bool) => (.trim [[f], [t], [t, t], [f, f, f]] (.ops [
  ⟨some [t, f, f], .alloc none [.nils, .nils], none⟩]) : CCode)) false true
def c43_o3 : CCode := (fun (f t : Bool) => (.trim [[f], [t], [t, t], [f, f, f], [t, f, f]] (.ops [
  ⟨some [f, t, f], .move (.c (.int .i64 0)), none⟩]) : CCode)) false true
def c43_o4 : CCode := (fun (f t : Bool) => (.trim [[f], [t], [t, t], [f, f, f], [t, f, f], [f, t, f]] (.ops [
  ⟨some [f, t, f, f], .move (.s [f, t, f]), none⟩,
  ⟨some [t, t, f, f], .move (.s [f, f, f]), none⟩,
  ⟨some [f, f, t, f], .bin .lss (.s [f, t, f, f]) (.s [t, t, f, f]), none⟩]) : CCode)) false true
def c43_o5 : CCode := (fun (f t : Bool) => (.trim [[f], [t], [t, t], [f, f, f], [t, f, f], [f, t, f]] (.ops [
  ⟨some [t, t, f], .move (.c (.int .i64 (-1))), none⟩,
  ⟨some [f, f, t], .move (.c (.int .i64 1)), none⟩]) : CCode)) false true
def c43_o6 : CCode := (fun (f t : Bool) => (.trim [[f], [t], [t, t], [f, f, f], [t, f, f], [f, t, f], [t, t, f], [f, f, t]] (.ops [
  ⟨some [t, t, t, f], .move (.s [f, t, f]), none⟩,
  ⟨some [f, f, f, t], .move (.s [f]), none⟩,
  ⟨some [t, f, f, t], .len 1 (.s [f, f, f, t]), none⟩,
  ⟨some [f, t, f, t], .bin .lss (.s [t, t, t, f]) (.s [t, f, f, t]), none⟩]) : CCode)) false true
def c43_o7 : CCode := (fun (f t : Bool) => (.trim [[f], [t], [t, t], [f, f, f], [t, f, f], [f, t, f], [f, f, t]] (.ops [
  ⟨some [t, t, f, t], .move (.s [f]), none⟩,
  ⟨some [f, f, t, t], .move (.s [f, t, f]), none⟩,
  ⟨some [t, f, t, t], .idxSl 1 (.s [t, t, f, t]) (.s [f, f, t, t]), none⟩,
  ⟨some [f, t, t, t], .load none (.s [t, f, t, t]), none⟩,
  ⟨some [t, t, t, t], .move (.s [f, f, f]), none⟩,
  ⟨some [f, f, f, f, f], .bin .add (.s [t, t, t, t]) (.c (.int .i64 2)), none⟩,
  ⟨some [t, f, f, f, f], .call f (.c (.func 24 [])) [(.s [f, t, t, t]), (.s [f, f, f, f, f])], none⟩,
  ⟨some [f, t, f, f, f], .bin .sub (.s [t, f, f, f, f]) (.c (.int .i64 1)), none⟩,
  ⟨some [t, t, f], .move (.s [f, t, f, f, f]), none⟩]) : CCode)) false true
def c43_o8 : CCode := (fun (f t : Bool) => (.trim [[f], [t], [t, t], [f, f, f], [t, f, f], [f, t, f], [t, t, f], [f, f, t]] (.ops [
  ⟨some [t, t, f, f, f], .move (.s [f, t, f]), none⟩,
  ⟨some [f, f, t, f, f], .move (.s [t]), none⟩,
  ⟨some [t, f, t, f, f], .len 1 (.s [f, f, t, f, f]), none⟩,
  ⟨some [f, t, t, f, f], .bin .lss (.s [t, t, f, f, f]) (.s [t, f, t, f, f]), none⟩]) : CCode)) false true
def c43_o9 : CCode := (fun (f t : Bool) => (.trim [[f], [t], [t, t], [f, f, f], [t, f, f], [f, t, f], [t, t, f]] (.ops [
  ⟨some [t, t, t, f, f], .move (.s [t]), none⟩,
  ⟨some [f, f, f, t, f], .move (.s [f, t, f]), none⟩,
  ⟨some [t, f, f, t, f], .idxSl 1 (.s [t, t, t, f, f]) (.s [f, f, f, t, f]), none⟩,
  ⟨some [f, t, f, t, f], .load none (.s [t, f, f, t, f]), none⟩,
  ⟨some [t, t, f, t, f], .move (.s [f, f, f]), none⟩,
  ⟨some [f, f, t, t, f], .bin .add (.s [t, t, f, t, f]) (.c (.int .i64 2)), none⟩,
  ⟨some [t, f, t, t, f], .call f (.c (.func 24 [])) [(.s [f, t, f, t, f]), (.s [f, f, t, t, f])], none⟩,
  ⟨some [f, t, t, t, f], .bin .add (.c (.int .i64 1)) (.s [t, f, t, t, f]), none⟩,
  ⟨some [f, f, t], .move (.s [f, t, t, t, f]), none⟩]) : CCode)) false true
def c43_o10 : CCode := (fun (f t : Bool) => (.trim [[f], [t], [t, t], [f, f, f], [t, f, f], [f, t, f], [t, t, f], [f, f, t]] (.ops [
  ⟨some [t, t, t, t, f], .move (.s [f, t, f]), none⟩,
  ⟨some [f, f, f, f, t], .move (.s [f, f, f]), none⟩,
  ⟨some [t, f, f, f, t], .bin .sub (.s [f, f, f, f, t]) (.c (.int .i64 1)), none⟩,
  ⟨some [f, t, f, f, t], .bin .eql (.s [t, t, t, t, f]) (.s [t, f, f, f, t]), none⟩]) : CCode)) false true
def c43_o11 : CCode := (fun (f t : Bool) => (.trim [[f], [t], [t, t], [f, f, f], [t, f, f], [f, t, f], [t, t, f]] (.ops [
  ⟨some [f, f, t], .move (.c (.int .i64 1)), none⟩]) : CCode)) false true
def c43_o12 : CCode := (fun (f t : Bool) => (.trim [[f], [t], [t, t], [f, f, f], [t, f, f], [f, t, f], [t, t, f], [f, f, t]] (.ops [
  ⟨some [t, t, f, f, t], .fieldAddr 0 (.s [t, f, f]), none⟩,
  ⟨some [f, f, t, f, t], .load none (.s [t, t, f, f, t]), none⟩,
  ⟨some [t, f, t, f, t], .move (.s [t, t, f]), none⟩,
  ⟨some [f, t, t, f, t], .buildSlice none 1 1 [.int .i64 0] [(0, 1, (.s [t, f, t, f, t]))], none⟩,
  ⟨some [t, t, t, f, t], .append none 1 8 (.s [f, f, t, f, t]) (.s [f, t, t, f, t]), none⟩,
  ⟨some [f, f, f, t, t], .fieldAddr 0 (.s [t, f, f]), none⟩,
  ⟨none, .store 1 (.s [f, f, f, t, t]) (.s [t, t, t, f, t]), none⟩]) : CCode)) false true
def c43_o13 : CCode := (fun (f t : Bool) => (.trim [[f], [t], [t, t], [f, f, f], [t, f, f], [f, t, f], [t, t, f], [f, f, t]] (.ops [
  ⟨some [t, f, f, t, t], .fieldAddr 1 (.s [t, f, f]), none⟩,
  ⟨some [f, t, f, t, t], .load none (.s [t, f, f, t, t]), none⟩,
  ⟨some [t, t, f, t, t], .move (.s [f, f, f]), none⟩,
  ⟨some [f, f, t, t, t], .bin .add (.s [t, t, f, t, t]) (.c (.int .i64 1)), none⟩,
  ⟨some [t, f, t, t, t], .move (.s [t, t, f]), none⟩,
  ⟨some [f, t, t, t, t], .move (.s [f, f, t]), none⟩,
  ⟨some [t, t, t, t, t], .bin .add (.s [t, f, t, t, t]) (.s [f, t, t, t, t]), none⟩,
  ⟨some [f, f, f, f, f, f], .minmax f (.s [f, f, t, t, t]) (.s [t, t, t, t, t]), none⟩,
  ⟨some [t, f, f, f, f, f], .buildSlice none 1 1 [.int .i64 0] [(0, 1, (.s [f, f, f, f, f, f]))], none⟩,
  ⟨some [f, t, f, f, f, f], .append none 1 8 (.s [f, t, f, t, t]) (.s [t, f, f, f, f, f]), none⟩,
  ⟨some [t, t, f, f, f, f], .fieldAddr 1 (.s [t, f, f]), none⟩,
  ⟨none, .store 1 (.s [t, t, f, f, f, f]) (.s [f, t, f, f, f, f]), none⟩]) : CCode)) false true
def c43_o14 : CCode := (fun (f t : Bool) => (.trim [[f], [t], [t, t], [f, f, f], [t, f, f], [f, t, f]] (.ops [
  ⟨some [t, f, t, f], .move (.s [f, t, f]), none⟩,
  ⟨some [f, t, t, f], .bin .add (.s [t, f, t, f]) (.c (.int .i64 1)), none⟩,
  ⟨some [f, t, f], .move (.s [f, t, t, f]), none⟩]) : CCode)) false true
def c43_b0 : CCode := (fun (f t : Bool) => ((.seq (.seq c43_o4
 (.cond (.s [f, f, t, f]) .skip (.exit 0)))
 (.seq (.block 1 (.seq c43_o5
 (.seq (.seq c43_o6
 (.cond (.s [f, t, f, t]) c43_o7 .skip))
 (.seq (.seq c43_o8
 (.cond (.s [f, t, t, f, f]) c43_o9 .skip))
 (.seq (.seq c43_o10
 (.cond (.s [f, t, f, f, t]) c43_o11 .skip))
 (.seq c43_o12
 c43_o13))))))
 c43_o14)) : CCode)) false true
def c43_l0 : CCode := (fun (f t : Bool) => (.loop [[f], [t], [t, t], [f, f, f], [t, f, f], [f, t, f]] c43_b0 : CCode)) false true
def c43_o15 : CCode := (fun (f t : Bool) => (.trim [[t, t], [t, f, f]] (.ops [
  ⟨some [f, f, t, f, f, f], .load (some 2) (.s [t, f, f]), none⟩,
  ⟨none, .store 2 (.s [t, t]) (.s [f, f, t, f, f, f]), none⟩]) : CCode)) false true
def c43 : CFunc := (fun (f t : Bool) => ({ params := [[], [f], [t]], results := [.cell [t, t] (some 2)], shared := f, body := (.seq c43_o0
 (.seq c43_o1
 (.seq c43_o2
 (.seq (.seq c43_o3
 (.block 0 c43_l0))
 (.seq c43_o15
 .ret))))) } : CFunc)) false true
-- numnah/numnahref05.Curtail
-- c44_o0: 0=[] 1=[f]
-- c44_o1: 0=[] 1=[f] 4=[t, f]
-- c44_o2: 0=[] 1=[f] 4=[t, f] 5=[f, t]
-- c44_o3: 0=[] 1=[f] 4=[t, f] 5=[f, t] 6=[t, t]
-- c44_o4: 0=[] 1=[f] 4=[t, f] 5=[f, t] 6=[t, t]
-- c44_o5: 0=[] 1=[f] 4=[t, f] 5=[f, t] 6=[t, t]
-- c44_o6: 0=[] 1=[f] 4=[t, f] 5=[f, t] 6=[t, t]
-- c44_l0: live slots [0, 1, 4, 5, 6]
-- c44_o7: 4=[t, f] 5=[f, t]
def c44_o0 : CCode := (fun (f t : Bool) => (.trim [[], [f]] (.ops [
  ⟨some [t, f], .alloc none [.nils, .nils], none⟩]) : CCode)) false true
def c44_o1 : CCode := (fun (f t : Bool) => (.trim [[], [f], [t, f]] (.ops [
  ⟨some [f, t], .alloc none [.nils, .nils], none⟩]) : CCode)) false true
def c44_o2 : CCode := (fun (f t : Bool) => (.trim [[], [f], [t, f], [f, t]] (.ops [
  ⟨some [t, t], .move (.c (.int .i64 1)), none⟩]) : CCode)) false true
def c44_o3 : CCode := (fun (f t : Bool) => (.trim [[], [f], [t, f], [f, t], [t, t]] (.ops [
  ⟨some [f, f, f], .move (.s [t, t]), none⟩,
  ⟨some [t, f, f], .move (.s []), none⟩,
  ⟨some [f, t, f], .bin .leq (.s [f, f, f]) (.s [t, f, f]), none⟩]) : CCode)) false true
def c44_o4 : CCode := (fun (f t : Bool) => (.trim [[], [f], [t, f], [f, t], [t, t]] (.ops [
  ⟨some [t, f, t], .fieldAddr 0 (.s [f, t]), none⟩,
  ⟨some [f, t, t], .load none (.s [t, f, t]), none⟩,
  ⟨some [t, t, t], .move (.s [f]), none⟩,
  ⟨some [f, f, f, f], .move (.s []), none⟩,
  ⟨some [t, f, f, f], .move (.s [t, t]), none⟩,
  ⟨some [f, t, f, f], .bin .sub (.s [f, f, f, f]) (.s [t, f, f, f]), none⟩,
  ⟨some [t, t, f, f], .bin .sub (.s [t, t, t]) (.s [f, t, f, f]), none⟩,
  ⟨some [f, f, t, f], .minmax t (.c (.int .i64 (-1))) (.s [t, t, f, f]), none⟩,
  ⟨some [t, f, t, f], .buildSlice none 1 1 [.int .i64 0] [(0, 1, (.s [f, f, t, f]))], none⟩,
  ⟨some [f, t, t, f], .append none 1 8 (.s [f, t, t]) (.s [t, f, t, f]), none⟩,
  ⟨some [t, t, t, f], .fieldAddr 0 (.s [f, t]), none⟩,
  ⟨none, .store 1 (.s [t, t, t, f]) (.s [f, t, t, f]), none⟩]) : CCode)) false true
def c44_o5 : CCode := (fun (f t : Bool) => (.trim [[], [f], [t, f], [f, t], [t, t]] (.ops [
  ⟨some [f, f, f, t], .fieldAddr 1 (.s [f, t]), none⟩,
  ⟨some [t, f, f, t], .load none (.s [f, f, f, t]), none⟩,
  ⟨some [f, t, f, t], .move (.s [f]), none⟩,
  ⟨some [t, t, f, t], .bin .add (.s [f, t, f, t]) (.c (.int .i64 1)), none⟩,
  ⟨some [f, f, t, t], .buildSlice none 1 1 [.int .i64 0] [(0, 1, (.s [t, t, f, t]))], none⟩,
  ⟨some [t, f, t, t], .append none 1 8 (.s [t, f, f, t]) (.s [f, f, t, t]), none⟩,
  ⟨some [f, t, t, t], .fieldAddr 1 (.s [f, t]), none⟩,
  ⟨none, .store 1 (.s [f, t, t, t]) (.s [t, f, t, t]), none⟩]) : CCode)) false true
def c44_o6 : CCode := (fun (f t : Bool) => (.trim [[], [f], [t, f], [f, t], [t, t]] (.ops [
  ⟨some [t, t, f], .move (.s [t, t]), none⟩,
  ⟨some [f, f, t], .bin .add (.s [t, t, f]) (.c (.int .i64 1)), none⟩,
  ⟨some [t, t], .move (.s [f, f, t]), none⟩]) : CCode)) false true
def c44_b0 : CCode := (fun (f t : Bool) => ((.seq (.seq c44_o3
 (.cond (.s [f, t, f]) .skip (.exit 0)))
 (.seq (.block 1 (.seq c44_o4
 c44_o5))
 c44_o6)) : CCode)) false true
def c44_l0 : CCode := (fun (f t : Bool) => (.loop [[], [f], [t, f], [f, t], [t, t]] c44_b0 : CCode)) false true
def c44_o7 : CCode := (fun (f t : Bool) => (.trim [[t, f], [f, t]] (.ops [
  ⟨some [t, t, t, t], .load (some 2) (.s [f, t]), none⟩,
  ⟨none, .store 2 (.s [t, f]) (.s [t, t, t, t]), none⟩]) : CCode)) false true
def c44 : CFunc := (fun (f t : Bool) => ({ params := [[], [f]], results := [.cell [t, f] (some 2)], shared := f, body := (.seq c44_o0
 (.seq c44_o1
 (.seq (.seq c44_o2
 (.block 0 c44_l0))
 (.seq c44_o7
 .ret)))) } : CFunc)) false true
-- numnah/numnahlaw05.ints
-- c45_o0: 0=[] 1=[f]
-- c45_o1: 0=[] 1=[f]
-- c45_o2: 
-- c45_o3: 0=[] 1=[f]
-- c45_o4: 0=[] 1=[f] 5=[f, t]
-- c45_o5: 0=[] 1=[f] 5=[f, t]
-- c45_o6: 
-- c45_o7: 0=[] 1=[f] 5=[f, t]
-- c45_l0: live slots [0, 1, 5]
-- c45_o8: 
def c45_o0 : CCode := (fun (f t : Bool) => (.trim [[], [f]] (.ops [
  ⟨some [t, f], .move (.c (.bool f)), none⟩]) : CCode)) false true
def c45_o1 : CCode := (fun (f t : Bool) => (.trim [[], [f]] (.ops [
  ⟨some [t, t], .move (.s []), none⟩,
  ⟨some [f, f, f], .len 1 (.s [t, t]), none⟩,
  ⟨some [t, f, f], .move (.s [f]), none⟩,
  ⟨some [f, t, f], .len 1 (.s [t, f, f]), none⟩,
  ⟨some [t, t, f], .bin .neq (.s [f, f, f]) (.s [f, t, f]), none⟩]) : CCode)) false true
def c45_o2 : CCode := (fun (f t : Bool) => (.trim [] (.ops [
  ⟨some [t, f], .move (.c (.bool f)), none⟩]) : CCode)) false true
def c45_o3 : CCode := (fun (f t : Bool) => (.trim [[], [f]] (.ops [
  ⟨some [f, t], .move (.c (.int .i64 0)), none⟩]) : CCode)) false true
def c45_o4 : CCode := (fun (f t : Bool) => (.trim [[], [f], [f, t]] (.ops [
  ⟨some [f, f, t], .move (.s [f, t]), none⟩,
  ⟨some [t, f, t], .move (.s []), none⟩,
  ⟨some [f, t, t], .len 1 (.s [t, f, t]), none⟩,
  ⟨some [t, t, t], .bin .lss (.s [f, f, t]) (.s [f, t, t]), none⟩]) : CCode)) false true
def c45_o5 : CCode := (fun (f t : Bool) => (.trim [[], [f], [f, t]] (.draw 0 [
  ⟨some [f, t, f, f], .move (.s []), none⟩,
  ⟨some [t, t, f, f], .move (.s [f, t]), none⟩,
  ⟨some [f, f, t, f], .idxSl 1 (.s [f, t, f, f]) (.s [t, t, f, f]), none⟩,
  ⟨some [t, f, t, f], .load none (.s [f, f, t, f]), none⟩,
  ⟨some [f, t, t, f], .move (.s [f]), none⟩,
  ⟨some [t, t, t, f], .move (.s [f, t]), none⟩,
  ⟨some [f, f, f, t], .idxSl 1 (.s [f, t, t, f]) (.s [t, t, t, f]), none⟩,
  ⟨some [t, f, f, t], .load none (.s [f, f, f, t]), none⟩,
  ⟨some [f, t, f, t], .bin .neq (.s [t, f, t, f]) (.s [t, f, f, t]), none⟩]
  [(3, 7)] [[], [], [0, 1], [0, 1, 2], [], [], [4, 5], [4, 5, 6], (r 8)]) : CCode)) false true
def c45_o6 : CCode := (fun (f t : Bool) => (.trim [] (.ops [
  ⟨some [t, f], .move (.c (.bool f)), none⟩]) : CCode)) false true
def c45_o7 : CCode := (fun (f t : Bool) => (.trim [[], [f], [f, t]] (.ops [
  ⟨some [f, f, f, f], .move (.s [f, t]), none⟩,
  ⟨some [t, f, f, f], .bin .add (.s [f, f, f, f]) (.c (.int .i64 1)), none⟩,
  ⟨some [f, t], .move (.s [t, f, f, f]), none⟩]) : CCode)) false true
def c45_b0 : CCode := (fun (f t : Bool) => ((.seq (.seq c45_o4
 (.cond (.s [t, t, t]) .skip (.exit 0)))
 (.seq (.block 1 (.seq c45_o5
 (.cond (.s [f, t, f, t]) (.seq c45_o6
 .ret) .skip)))
 c45_o7)) : CCode)) false true
def c45_l0 : CCode := (fun (f t : Bool) => (.loop [[], [f], [f, t]] c45_b0 : CCode)) false true
def c45_o8 : CCode := (fun (f t : Bool) => (.trim [] (.ops [
  ⟨some [t, f], .move (.c (.bool t)), none⟩]) : CCode)) false true
def c45 : CFunc := (fun (f t : Bool) => ({ params := [[], [f]], results := [.slot [t, f]], shared := f, body := (.seq c45_o0
 (.seq (.seq c45_o1
 (.cond (.s [t, t, f]) (.seq c45_o2
 .ret) .skip))
 (.seq (.seq c45_o3
 (.block 0 c45_l0))
 (.seq c45_o8
 .ret)))) } : CFunc)) false true
-- numnah/sample.isLot
def c52 : CFunc := (fun (f t : Bool) => ({ params := [[], [f]], results := [.slot [t, f]], shared := f, body := (.seq (.ops [
  ⟨some [t, f], .move (.c (.bool f)), none⟩])
 (.seq (.ops [
  ⟨some [f, t], .move (.s []), none⟩,
  ⟨some [t, t], .call f (.c (.func 67 [])) [(.s [f, t]), (.c (.int .i64 1)), (.c (.int .i64 36))], none⟩,
  ⟨some [f, f, f], .move (.s [t, t]), none⟩,
  ⟨some [t, f, f], .move (.s [f]), some ([f, f, f], t)⟩,
  ⟨some [f, t, f], .move (.s []), some ([f, f, f], t)⟩,
  ⟨some [t, t, f], .call f (.c (.func 67 [])) [(.s [t, f, f]), (.c (.int .i64 0)), (.s [f, t, f])], some ([f, f, f], t)⟩,
  ⟨some [f, f, t], .pick (.s [f, f, f]) (.s [t, t, f]) (.c (.bool f)), none⟩,
  ⟨some [t, f], .move (.s [f, f, t]), none⟩])
 .ret)) } : CFunc)) false true
-- numnah/sample.isChance
-- c53_o0: 0=[]
-- c53_o1: 1=[f]
def c53_o0 : CCode := (fun (f t : Bool) => (.trim [[]] (.ops [
  ⟨some [f], .box none (.s []), none⟩,
  ⟨some [t], .move (.c (.bool f)), none⟩]) : CCode)) false true
def c53_o1 : CCode := (fun (f t : Bool) => (.trim [[f]] (.ops [
  ⟨some [f, f], .fieldAddr 1 (.s [f]), none⟩,
  ⟨some [t, f], .load none (.s [f, f]), none⟩,
  ⟨some [f, t], .call f (.c (.func 67 [])) [(.s [t, f]), (.c (.int .i64 1)), (.c (.int .i64 1000))], none⟩,
  ⟨some [t, t], .move (.s [f, t]), none⟩,
  ⟨some [f, f, f], .fieldAddr 0 (.s [f]), some ([t, t], t)⟩,
  ⟨some [t, f, f], .load none (.s [f, f, f]), some ([t, t], t)⟩,
  ⟨some [f, t, f], .fieldAddr 1 (.s [f]), some ([t, t], t)⟩,
  ⟨some [t, t, f], .load none (.s [f, t, f]), some ([t, t], t)⟩,
  ⟨some [f, f, t], .call f (.c (.func 67 [])) [(.s [t, f, f]), (.c (.int .i64 0)), (.s [t, t, f])], some ([t, t], t)⟩,
  ⟨some [t, f, t], .pick (.s [t, t]) (.s [f, f, t]) (.c (.bool f)), none⟩,
  ⟨some [f, t, t], .move (.s [t, f, t]), none⟩,
  ⟨some [t, t, t], .fieldAddr 0 (.s [f]), some ([f, t, t], t)⟩,
  ⟨some [f, f, f, f], .load none (.s [t, t, t]), some ([f, t, t], t)⟩,
  ⟨some [t, f, f, f], .fieldAddr 1 (.s [f]), some ([f, t, t], t)⟩,
  ⟨some [f, t, f, f], .load none (.s [t, f, f, f]), some ([f, t, t], t)⟩,
  ⟨some [t, t, f, f], .call f (.c (.func 68 [])) [(.s [f, f, f, f]), (.s [f, t, f, f])], some ([f, t, t], t)⟩,
  ⟨some [f, f, t, f], .bin .eql (.s [t, t, f, f]) (.c (.int .i64 1)), some ([f, t, t], t)⟩,
  ⟨some [t, f, t, f], .pick (.s [f, t, t]) (.s [f, f, t, f]) (.c (.bool f)), none⟩,
  ⟨some [t], .move (.s [t, f, t, f]), none⟩]) : CCode)) false true
def c53 : CFunc := (fun (f t : Bool) => ({ params := [[]], results := [.slot [t]], shared := f, body := (.seq c53_o0
 (.seq c53_o1
 .ret)) } : CFunc)) false true
-- numnah/sample.ways
-- c54_l0: live slots [1, 2, 3, 6]
-- c54_l1: live slots [1, 6]
def c54_b0 : CCode := (fun (f t : Bool) => ((.seq (.seq (.ops [
  ⟨some [t, t, t], .move (.s [f, f]), none⟩,
  ⟨some [f, f, f, f], .move (.s [t]), none⟩,
  ⟨some [t, f, f, f], .bin .leq (.s [t, t, t]) (.s [f, f, f, f]), none⟩])
 (.cond (.s [t, f, f, f]) .skip (.exit 2)))
 (.seq (.block 3 (.draw 0 [
  ⟨some [f, f, t, f], .move (.s [f]), none⟩,
  ⟨some [t, f, t, f], .move (.s [t]), none⟩,
  ⟨some [f, t, t, f], .move (.s [f, f]), none⟩,
  ⟨some [t, t, t, f], .move (.s [f]), none⟩,
  ⟨some [f, f, f, t], .move (.s [t]), none⟩,
  ⟨some [t, f, f, t], .bin .sub (.s [f, f, f, t]) (.c (.int .i64 1)), none⟩,
  ⟨some [f, t, f, t], .move (.s [f, f]), none⟩,
  ⟨some [t, t, f, t], .bin .sub (.s [f, t, f, t]) (.c (.int .i64 1)), none⟩,
  ⟨some [f, f, t, t], .nilCheck (.s [t, t, t, f]), none⟩,
  ⟨some [t, f, t, t], .idxArr 37 37 (.s [f, f, t, t]) (.s [t, f, f, t]), none⟩,
  ⟨some [f, t, t, t], .idxArr 37 1 (.s [t, f, t, t]) (.s [t, t, f, t]), none⟩,
  ⟨some [t, t, t, t], .load none (.s [f, t, t, t]), none⟩,
  ⟨some [f, f, f, f, f], .move (.s [f]), none⟩,
  ⟨some [t, f, f, f, f], .move (.s [t]), none⟩,
  ⟨some [f, t, f, f, f], .bin .sub (.s [t, f, f, f, f]) (.c (.int .i64 1)), none⟩,
  ⟨some [t, t, f, f, f], .move (.s [f, f]), none⟩,
  ⟨some [f, f, t, f, f], .nilCheck (.s [f, f, f, f, f]), none⟩,
  ⟨some [t, f, t, f, f], .idxArr 37 37 (.s [f, f, t, f, f]) (.s [f, t, f, f, f]), none⟩,
  ⟨some [f, t, t, f, f], .idxArr 37 1 (.s [t, f, t, f, f]) (.s [t, t, f, f, f]), none⟩,
  ⟨some [t, t, t, f, f], .load none (.s [f, t, t, f, f]), none⟩,
  ⟨some [f, f, f, t, f], .bin .add (.s [t, t, t, t]) (.s [t, t, t, f, f]), none⟩,
  ⟨some [t, f, f, t, f], .nilCheck (.s [f, f, t, f]), none⟩,
  ⟨some [f, t, f, t, f], .idxArr 37 37 (.s [t, f, f, t, f]) (.s [t, f, t, f]), none⟩,
  ⟨some [t, t, f, t, f], .idxArr 37 1 (.s [f, t, f, t, f]) (.s [f, t, t, f]), none⟩,
  ⟨none, .store 1 (.s [t, t, f, t, f]) (.s [f, f, f, t, f]), none⟩]
  [(11, 19)] [[], [], [], [], [], [4], [], [6], [3], [3, 4, 5, 8], [3, 4, 5, 6, 7, 8, 9], [3, 4, 5, 6, 7, 8, 9, 10], [], [], [13], [], [12], [12, 13, 14, 16], [12, 13, 14, 15, 16, 17], [12, 13, 14, 15, 16, 17, 18], [3, 4, 5, 6, 7, 8, 9, 10, 11, 12, 13, 14, 15, 16, 17, 18, 19], [0], [0, 1, 21], (r 23), (r 24)]))
 (.ops [
  ⟨some [f, t, f, f], .move (.s [f, f]), none⟩,
  ⟨some [t, t, f, f], .bin .add (.s [f, t, f, f]) (.c (.int .i64 1)), none⟩,
  ⟨some [f, f], .move (.s [t, t, f, f]), none⟩]))) : CCode)) false true
def c54_l0 : CCode := (fun (f t : Bool) => (.loop [[f], [t], [f, f], [t, t]] c54_b0 : CCode)) false true
def c54_b1 : CCode := (fun (f t : Bool) => ((.seq (.ops [
  ⟨some [f, f, f], .bin .lss (.s [t, t]) (.c (.int .i64 37)), none⟩])
 (.seq (.cond (.s [f, f, f]) .skip (.exit 0))
 (.seq (.block 1 (.seq (.ops [
  ⟨some [t, f, f], .move (.s [t, t]), none⟩,
  ⟨some [t], .move (.s [t, f, f]), none⟩])
 (.seq (.ops [
  ⟨some [f, t, f], .move (.s [f]), none⟩,
  ⟨some [t, t, f], .move (.s [t]), none⟩,
  ⟨some [f, f, t], .nilCheck (.s [f, t, f]), none⟩,
  ⟨some [t, f, t], .idxArr 37 37 (.s [f, f, t]) (.s [t, t, f]), none⟩,
  ⟨some [f, t, t], .idxArr 37 1 (.s [t, f, t]) (.c (.int .i64 0)), none⟩,
  ⟨none, .store 1 (.s [f, t, t]) (.c (.int .i64 1)), none⟩])
 (.seq (.ops [
  ⟨some [f, f], .move (.c (.int .i64 1)), none⟩])
 (.block 2 c54_l0)))))
 (.ops [
  ⟨some [f, f, t, t, f], .bin .add (.s [t, t]) (.c (.int .i64 1)), none⟩,
  ⟨some [t, t], .move (.s [f, f, t, t, f]), none⟩])))) : CCode)) false true
def c54_l1 : CCode := (fun (f t : Bool) => (.loop [[f], [t, t]] c54_b1 : CCode)) false true
def c54 : CFunc := (fun (f t : Bool) => ({ params := [], results := [.slot []], shared := f, body := (.seq (.ops [
  ⟨some [], .move (.c (.nilp)), none⟩])
 (.seq (.ops [
  ⟨some [t, f], .build (List.replicate 1369 (.int .i64 0)) [], none⟩,
  ⟨some [f, t], .box none (.s [t, f]), none⟩,
  ⟨some [f], .move (.s [f, t]), none⟩])
 (.seq (.seq (.ops [
  ⟨some [t, t], .move (.c (.int .i64 0)), none⟩])
 (.block 0 c54_l1))
 (.seq (.ops [
  ⟨some [t, f, t, t, f], .move (.s [f]), none⟩,
  ⟨some [], .move (.s [t, f, t, t, f]), none⟩])
 .ret)))) } : CFunc)) false true
-- numnah/sample.compare
-- c55_o0: 0=[] 1=[f]
-- c55_o1: 2=[t] 3=[f, f]
-- c55_o2: 2=[t] 3=[f, f]
-- c55_o3: 2=[t] 3=[f, f] 5=[f, t] 6=[t, t]
-- c55_o4: 2=[t] 3=[f, f] 5=[f, t] 6=[t, t]
-- c55_o5: 5=[f, t] 6=[t, t]
-- c55_o6: 2=[t] 3=[f, f]
-- c55_o7: 2=[t] 3=[f, f]
-- c55_o8: 2=[t] 3=[f, f]
-- c55_l0: live slots [2, 3]
-- c55_o9: 
def c55_o0 : CCode := (fun (f t : Bool) => (.trim [[], [f]] (.ops [
  ⟨some [t], .box none (.s []), none⟩,
  ⟨some [f, f], .box none (.s [f]), none⟩,
  ⟨some [t, f], .move (.c (.int .i64 0)), none⟩]) : CCode)) false true
def c55_o1 : CCode := (fun (f t : Bool) => (.trim [[t], [f, f]] (.ops [
  ⟨some [f, f, f], .load (some 2) (.s [t]), none⟩,
  ⟨some [t, f, f], .load (some 2) (.s [f, f]), none⟩,
  ⟨some [f, t, f], .eqa [.i .i64, .i .i64] t (.s [f, f, f]) (.s [t, f, f]), none⟩]) : CCode)) false true
def c55_o2 : CCode := (fun (f t : Bool) => (.trim [[t], [f, f]] (.draw 0 [
  ⟨some [t, t, f], .fieldAddr 0 (.s [t]), none⟩,
  ⟨some [f, f, t], .load none (.s [t, t, f]), none⟩,
  ⟨some [t, f, t], .fieldAddr 1 (.s [t]), none⟩,
  ⟨some [f, t, t], .load none (.s [t, f, t]), none⟩,
  ⟨some [t, t, t], .bin .quo (.s [f, f, t]) (.s [f, t, t]), none⟩,
  ⟨some [f, f, f, f], .fieldAddr 0 (.s [f, f]), none⟩,
  ⟨some [t, f, f, f], .load none (.s [f, f, f, f]), none⟩,
  ⟨some [f, t, f, f], .fieldAddr 1 (.s [f, f]), none⟩,
  ⟨some [t, t, f, f], .load none (.s [f, t, f, f]), none⟩,
  ⟨some [f, f, t, f], .bin .quo (.s [t, f, f, f]) (.s [t, t, f, f]), none⟩,
  ⟨some [f, t], .move (.s [t, t, t]), none⟩,
  ⟨some [t, t], .move (.s [f, f, t, f]), none⟩]
  [(1, 3), (1, 6), (3, 6), (1, 8), (3, 8), (6, 8)] [[], [0], [], [2], [0, 1, 2, 3], [], [5], [], [7], [5, 6, 7, 8], (r 5), (r 11)]) : CCode)) false true
def c55_o3 : CCode := (fun (f t : Bool) => (.trim [[t], [f, f], [f, t], [t, t]] (.draw 0 [
  ⟨some [t, f, t, f], .fieldAddr 0 (.s [t]), none⟩,
  ⟨some [f, t, t, f], .load none (.s [t, f, t, f]), none⟩,
  ⟨some [t, t, t, f], .fieldAddr 1 (.s [t]), none⟩,
  ⟨some [f, f, f, t], .load none (.s [t, t, t, f]), none⟩,
  ⟨some [t, f, f, t], .bin .rem (.s [f, t, t, f]) (.s [f, f, f, t]), none⟩,
  ⟨some [f, t, f, t], .fieldAddr 0 (.s [f, f]), none⟩,
  ⟨some [t, t, f, t], .load none (.s [f, t, f, t]), none⟩,
  ⟨some [f, f, t, t], .fieldAddr 1 (.s [f, f]), none⟩,
  ⟨some [t, f, t, t], .load none (.s [f, f, t, t]), none⟩,
  ⟨some [f, t, t, t], .bin .rem (.s [t, t, f, t]) (.s [t, f, t, t]), none⟩,
  ⟨some [t, t, t, t], .fieldAddr 0 (.s [t]), none⟩,
  ⟨none, .store 1 (.s [t, t, t, t]) (.s [t, f, f, t]), none⟩,
  ⟨some [f, f, f, f, f], .fieldAddr 0 (.s [f, f]), none⟩,
  ⟨none, .store 1 (.s [f, f, f, f, f]) (.s [f, t, t, t]), none⟩]
  [(1, 3), (1, 6), (3, 6), (1, 8), (3, 8), (6, 8), (6, 11), (8, 11)] [[], [0], [], [2], [0, 1, 2, 3], [], [5], [], [7], [5, 6, 7, 8], (r 5), (r 5 ++ [10]), (r 12), (r 13)]) : CCode)) false true
def c55_o4 : CCode := (fun (f t : Bool) => (.trim [[t], [f, f], [f, t], [t, t]] (.ops [
  ⟨some [f, t, f, f, f], .move (.s [f, t]), none⟩,
  ⟨some [t, t, f, f, f], .move (.s [t, t]), none⟩,
  ⟨some [f, f, t, f, f], .bin .neq (.s [f, t, f, f, f]) (.s [t, t, f, f, f]), none⟩,
  ⟨some [t, f, f, f, f], .move (.s [f, f, t, f, f]), none⟩]) : CCode)) false true
def c55_o5 : CCode := (fun (f t : Bool) => (.trim [[f, t], [t, t]] (.ops [
  ⟨some [t, f, t, f, f], .move (.s [f, t]), none⟩,
  ⟨some [f, t, t, f, f], .move (.s [t, t]), none⟩,
  ⟨some [t, t, t, f, f], .bin .sub (.s [t, f, t, f, f]) (.s [f, t, t, f, f]), none⟩,
  ⟨some [f, f, f, t, f], .minmax t (.c (.int .i64 (-1))) (.s [t, t, t, f, f]), none⟩,
  ⟨some [t, f, f, t, f], .minmax f (.c (.int .i64 1)) (.s [f, f, f, t, f]), none⟩,
  ⟨some [t, f], .move (.s [t, f, f, t, f]), none⟩]) : CCode)) false true
def c55_o6 : CCode := (fun (f t : Bool) => (.trim [[t], [f, f]] (.ops [
  ⟨some [t, t, f, t, f], .fieldAddr 0 (.s [t]), none⟩,
  ⟨some [f, f, t, t, f], .load none (.s [t, t, f, t, f]), none⟩,
  ⟨some [t, f, t, t, f], .bin .eql (.s [f, f, t, t, f]) (.c (.int .i64 0)), none⟩,
  ⟨some [f, t, t, t, f], .move (.s [t, f, t, t, f]), none⟩,
  ⟨some [t, t, t, t, f], .fieldAddr 0 (.s [f, f]), some ([f, t, t, t, f], f)⟩,
  ⟨some [f, f, f, f, t], .load none (.s [t, t, t, t, f]), some ([f, t, t, t, f], f)⟩,
  ⟨some [t, f, f, f, t], .bin .eql (.s [f, f, f, f, t]) (.c (.int .i64 0)), some ([f, t, t, t, f], f)⟩,
  ⟨some [f, t, f, f, t], .pick (.s [f, t, t, t, f]) (.c (.bool t)) (.s [t, f, f, f, t]), none⟩,
  ⟨some [f, t, f, t, f], .move (.s [f, t, f, f, t]), none⟩]) : CCode)) false true
def c55_o7 : CCode := (fun (f t : Bool) => (.trim [[t], [f, f]] (.ops [
  ⟨some [t, t, f, f, t], .fieldAddr 0 (.s [t]), none⟩,
  ⟨some [f, f, t, f, t], .load none (.s [t, t, f, f, t]), none⟩,
  ⟨some [t, f, t, f, t], .minmax t (.c (.int .i64 (-1))) (.s [f, f, t, f, t]), none⟩,
  ⟨some [f, t, t, f, t], .minmax f (.c (.int .i64 1)) (.s [t, f, t, f, t]), none⟩,
  ⟨some [t, t, t, f, t], .fieldAddr 0 (.s [f, f]), none⟩,
  ⟨some [f, f, f, t, t], .load none (.s [t, t, t, f, t]), none⟩,
  ⟨some [t, f, f, t, t], .minmax t (.c (.int .i64 (-1))) (.s [f, f, f, t, t]), none⟩,
  ⟨some [f, t, f, t, t], .minmax f (.c (.int .i64 1)) (.s [t, f, f, t, t]), none⟩,
  ⟨some [t, t, f, t, t], .bin .sub (.s [f, t, t, f, t]) (.s [f, t, f, t, t]), none⟩,
  ⟨some [t, f], .move (.s [t, t, f, t, t]), none⟩]) : CCode)) false true
def c55_o8 : CCode := (fun (f t : Bool) => (.trim [[t], [f, f]] (.ops [
  ⟨some [f, f, t, t, t], .fieldAddr 1 (.s [f, f]), none⟩,
  ⟨some [t, f, t, t, t], .load none (.s [f, f, t, t, t]), none⟩,
  ⟨some [f, t, t, t, t], .fieldAddr 0 (.s [f, f]), none⟩,
  ⟨some [t, t, t, t, t], .load none (.s [f, t, t, t, t]), none⟩,
  ⟨some [f, f, f, f, f, f], .build [.int .i64 0, .int .i64 0] [(0, 1, (.s [t, f, t, t, t])), (1, 1, (.s [t, t, t, t, t]))], none⟩,
  ⟨some [t, f, f, f, f, f], .fieldAddr 1 (.s [t]), none⟩,
  ⟨some [f, t, f, f, f, f], .load none (.s [t, f, f, f, f, f]), none⟩,
  ⟨some [t, t, f, f, f, f], .fieldAddr 0 (.s [t]), none⟩,
  ⟨some [f, f, t, f, f, f], .load none (.s [t, t, f, f, f, f]), none⟩,
  ⟨some [t, f, t, f, f, f], .build [.int .i64 0, .int .i64 0] [(0, 1, (.s [f, t, f, f, f, f])), (1, 1, (.s [f, f, t, f, f, f]))], none⟩,
  ⟨none, .store 2 (.s [t]) (.s [f, f, f, f, f, f]), none⟩,
  ⟨none, .store 2 (.s [f, f]) (.s [t, f, t, f, f, f]), none⟩]) : CCode)) false true
def c55_b0 : CCode := (fun (f t : Bool) => ((.seq (.seq c55_o1
 (.cond (.s [f, t, f]) .skip (.exit 0)))
 (.block 1 (.seq c55_o2
 (.seq c55_o3
 (.seq (.block 2 (.seq c55_o4
 (.cond (.s [t, f, f, f, f]) (.seq c55_o5
 .ret) (.seq c55_o6
 (.cond (.s [f, t, f, t, f]) (.seq c55_o7
 .ret) .skip)))))
 c55_o8))))) : CCode)) false true
def c55_l0 : CCode := (fun (f t : Bool) => (.loop [[t], [f, f]] c55_b0 : CCode)) false true
def c55_o9 : CCode := (fun (f t : Bool) => (.trim [] (.ops [
  ⟨some [t, f], .move (.c (.int .i64 0)), none⟩]) : CCode)) false true
def c55 : CFunc := (fun (f t : Bool) => ({ params := [[], [f]], results := [.slot [t, f]], shared := f, body := (.seq c55_o0
 (.seq (.block 0 c55_l0)
 (.seq c55_o9
 .ret))) } : CFunc)) false true
-- numnah/sample.frac
def c56 : CFunc := (fun (f t : Bool) => ({ params := [[], [f]], results := [.cell [t, f] (some 2)], shared := f, body := (.seq (.ops [
  ⟨some [t, f], .alloc none [.int .i64 0, .int .i64 0], none⟩])
 (.seq (.ops [
  ⟨some [t, t], .move (.s []), none⟩,
  ⟨some [f, f, f], .move (.s [f]), none⟩,
  ⟨some [t, f, f], .call f (.c (.func 68 [])) [(.s [t, t]), (.s [f, f, f])], none⟩,
  ⟨some [f, t], .move (.s [t, f, f]), none⟩])
 (.seq (.draw 0 [
  ⟨some [f, t, f], .move (.s []), none⟩,
  ⟨some [t, t, f], .move (.s [f, t]), none⟩,
  ⟨some [f, f, t], .bin .quo (.s [f, t, f]) (.s [t, t, f]), none⟩,
  ⟨some [t, f, t], .move (.s [f]), none⟩,
  ⟨some [f, t, t], .move (.s [f, t]), none⟩,
  ⟨some [t, t, t], .bin .quo (.s [t, f, t]) (.s [f, t, t]), none⟩,
  ⟨some [f, f, f, f], .build [.int .i64 0, .int .i64 0] [(0, 1, (.s [f, f, t])), (1, 1, (.s [t, t, t]))], none⟩,
  ⟨none, .store 2 (.s [t, f]) (.s [f, f, f, f]), none⟩]
  [] [[], [], [0, 1], [], [], [3, 4], (r 6), (r 7)])
 .ret))) } : CFunc)) false true
-- (*numnah/sample.triangle).single
-- c57_l0: live slots [0, 1, 2, 3, 11, 14, 15]
def c57_b0 : CCode := (fun (f t : Bool) => ((.seq (.ops [
  ⟨some [t, f, f, f], .bin .lss (.s [f, f, f, f]) (.s [t, t, t]), none⟩])
 (.seq (.cond (.s [t, f, f, f]) .skip (.exit 0))
 (.seq (.block 1 (.seq (.ops [
  ⟨some [f, t, f, f], .move (.s [f, f, f, f]), none⟩,
  ⟨some [t, f, t], .move (.s [f, t, f, f]), none⟩])
 (.ops [
  ⟨some [t, t, f, f], .move (.s [f, f, t]), none⟩,
  ⟨some [f, f, t, f], .move (.s []), none⟩,
  ⟨some [t, f, t, f], .move (.s [f, f]), none⟩,
  ⟨some [f, t, t, f], .move (.s [t, f, t]), none⟩,
  ⟨some [t, t, t, f], .call f (.c (.func 58 [])) [(.s [f, f, t, f]), (.s [t, f, t, f]), (.s [f, t, t, f])], none⟩,
  ⟨some [f, f, f, t], .move (.s []), none⟩,
  ⟨some [t, f, f, t], .move (.s [f]), none⟩,
  ⟨some [f, t, f, t], .move (.s [f, f]), none⟩,
  ⟨some [t, t, f, t], .bin .sub (.s [t, f, f, t]) (.s [f, t, f, t]), none⟩,
  ⟨some [f, f, t, t], .move (.s [t]), none⟩,
  ⟨some [t, f, t, t], .move (.s [t, f, t]), none⟩,
  ⟨some [f, t, t, t], .bin .sub (.s [f, f, t, t]) (.s [t, f, t, t]), none⟩,
  ⟨some [t, t, t, t], .call f (.c (.func 58 [])) [(.s [f, f, f, t]), (.s [t, t, f, t]), (.s [f, t, t, t])], none⟩,
  ⟨some [f, f, f, f, f], .bin .mul (.s [t, t, t, f]) (.s [t, t, t, t]), none⟩,
  ⟨some [t, f, f, f, f], .bin .add (.s [t, t, f, f]) (.s [f, f, f, f, f]), none⟩,
  ⟨some [f, f, t], .move (.s [t, f, f, f, f]), none⟩])))
 (.ops [
  ⟨some [f, t, f, f, f], .bin .add (.s [f, f, f, f]) (.c (.int .i64 1)), none⟩,
  ⟨some [f, f, f, f], .move (.s [f, t, f, f, f]), none⟩])))) : CCode)) false true
def c57_l0 : CCode := (fun (f t : Bool) => (.loop [[], [f], [t], [f, f], [f, f, t], [t, t, t], [f, f, f, f]] c57_b0 : CCode)) false true
def c57 : CFunc := (fun (f t : Bool) => ({ params := [[], [f], [t], [f, f], [t, f]], results := [.slot [t, t, f]], shared := f, body := (.seq (.ops [
  ⟨some [t, t, f], .move (.c (.int .i64 0)), none⟩])
 (.seq (.ops [
  ⟨some [f, f, t], .move (.c (.int .i64 0)), none⟩])
 (.seq (.seq (.ops [
  ⟨some [f, t, t], .move (.s [t, f]), none⟩,
  ⟨some [t, t, t], .bin .add (.s [f, t, t]) (.c (.int .i64 1)), none⟩,
  ⟨some [f, f, f, f], .move (.c (.int .i64 0)), none⟩])
 (.block 0 c57_l0))
 (.seq (.ops [
  ⟨some [t, t, f, f, f], .move (.s [f, f, t]), none⟩,
  ⟨some [t, t, f], .move (.s [t, t, f, f, f]), none⟩])
 .ret)))) } : CFunc)) false true
-- (*numnah/sample.triangle).of
def c58 : CFunc := (fun (f t : Bool) => ({ params := [[], [f], [t]], results := [.slot [t, t]], shared := f, body := (.seq (.ops [
  ⟨some [t, t], .move (.c (.int .i64 0)), none⟩])
 (.seq (.seq (.ops [
  ⟨some [f, f, f], .move (.s [t]), none⟩,
  ⟨some [t, f, f], .move (.s [f]), none⟩,
  ⟨some [f, t, f], .call f (.c (.func 67 [])) [(.s [f, f, f]), (.c (.int .i64 0)), (.s [t, f, f])], none⟩,
  ⟨some [t, t, f], .un .not (.s [f, t, f]), none⟩])
 (.cond (.s [t, t, f]) (.seq (.ops [
  ⟨some [t, t], .move (.c (.int .i64 0)), none⟩])
 .ret) .skip))
 (.seq (.ops [
  ⟨some [f, f, t], .move (.s []), none⟩,
  ⟨some [t, f, t], .move (.s [f]), none⟩,
  ⟨some [f, t, t], .move (.s [t]), none⟩,
  ⟨some [t, t, t], .nilCheck (.s [f, f, t]), none⟩,
  ⟨some [f, f, f, f], .idxArr 37 37 (.s [t, t, t]) (.s [t, f, t]), none⟩,
  ⟨some [t, f, f, f], .idxArr 37 1 (.s [f, f, f, f]) (.s [f, t, t]), none⟩,
  ⟨some [f, t, f, f], .load none (.s [t, f, f, f]), none⟩,
  ⟨some [t, t], .move (.s [f, t, f, f]), none⟩])
 .ret))) } : CFunc)) false true
-- numnah/numnahref05.gcd
-- c59_l0: live slots [0, 1]
def c59_b0 : CCode := (fun (f t : Bool) => ((.seq (.seq (.ops [
  ⟨some [t, t], .move (.s [f]), none⟩,
  ⟨some [f, f, f], .bin .gtr (.s [t, t]) (.c (.int .i64 0)), none⟩])
 (.cond (.s [f, f, f]) .skip (.exit 0)))
 (.block 1 (.seq (.ops [
  ⟨some [t, f, f], .move (.s []), none⟩,
  ⟨some [f, t, f], .move (.s [f]), none⟩,
  ⟨some [t, t, f], .bin .rem (.s [t, f, f]) (.s [f, t, f]), none⟩,
  ⟨some [f, t], .move (.s [t, t, f]), none⟩])
 (.seq (.ops [
  ⟨some [f, f, t], .move (.s [f]), none⟩,
  ⟨some [], .move (.s [f, f, t]), none⟩])
 (.ops [
  ⟨some [t, f, t], .move (.s [f, t]), none⟩,
  ⟨some [f], .move (.s [t, f, t]), none⟩]))))) : CCode)) false true
def c59_l0 : CCode := (fun (f t : Bool) => (.loop [[], [f]] c59_b0 : CCode)) false true
def c59 : CFunc := (fun (f t : Bool) => ({ params := [[], [f]], results := [.slot [t, f]], shared := f, body := (.seq (.ops [
  ⟨some [t, f], .move (.c (.int .i64 0)), none⟩])
 (.seq (.block 0 c59_l0)
 (.seq (.ops [
  ⟨some [f, t, t], .move (.s []), none⟩,
  ⟨some [t, f], .move (.s [f, t, t]), none⟩])
 .ret))) } : CFunc)) false true
-- numnah/sample.isSingle
def c60 : CFunc := (fun (f t : Bool) => ({ params := [[], [f], [t]], results := [.slot [t, t]], shared := f, body := (.seq (.ops [
  ⟨some [t, t], .move (.c (.bool f)), none⟩])
 (.seq (.ops [
  ⟨some [f, f, f], .move (.s [f]), none⟩,
  ⟨some [t, f, f], .move (.s []), none⟩,
  ⟨some [f, t, f], .call f (.c (.func 67 [])) [(.s [f, f, f]), (.c (.int .i64 1)), (.s [t, f, f])], none⟩,
  ⟨some [t, t, f], .move (.s [f, t, f]), none⟩,
  ⟨some [f, f, t], .move (.s [t]), some ([t, t, f], t)⟩,
  ⟨some [t, f, t], .move (.s [f]), some ([t, t, f], t)⟩,
  ⟨some [f, t, t], .bin .sub (.s [t, f, t]) (.c (.int .i64 1)), some ([t, t, f], t)⟩,
  ⟨some [t, t, t], .call f (.c (.func 67 [])) [(.s [f, f, t]), (.c (.int .i64 0)), (.s [f, t, t])], some ([t, t, f], t)⟩,
  ⟨some [f, f, f, f], .pick (.s [t, t, f]) (.s [t, t, t]) (.c (.bool f)), none⟩,
  ⟨some [t, t], .move (.s [f, f, f, f]), none⟩])
 .ret)) } : CFunc)) false true
-- slices.Repeat[[]int,int]
-- c61_o0: 0=[] 1=[f]
-- c61_o1: 0=[] 1=[f]
-- c61_o2: 0=[] 1=[f]
-- c61_o3: 0=[] 1=[f]
-- c61_o4: 0=[] 5=[f, t] 6=[t, t]
-- c61_o5: 0=[] 6=[t, t]
-- c61_o6: 0=[] 6=[t, t]
-- c61_o7: 0=[] 7=[f, f, f]
-- c61_o8: 7=[f, f, f] 8=[t, f, f]
-- c61_o9: 7=[f, f, f] 8=[t, f, f]
-- c61_l0: live slots [7, 8]
-- c61_o10: 7=[f, f, f]
def c61_o0 : CCode := (fun (f t : Bool) => (.trim [[], [f]] (.ops [
  ⟨some [t, f], .move (.c (.nils)), none⟩]) : CCode)) false true
def c61_o1 : CCode := (fun (f t : Bool) => (.trim [[], [f]] (.ops [
  ⟨some [f, t, f], .move (.s [f]), none⟩,
  ⟨some [t, t, f], .bin .lss (.s [f, t, f]) (.c (.int .i64 0)), none⟩]) : CCode)) false true
def c61_o2 : CCode := (fun (f t : Bool) => (.trim [[], [f]] (.ops [
  ⟨some [f, f, t], .iface 9 (.c (.str [99, 97, 110, 110, 111, 116, 32, 98, 101, 32, 110, 101, 103, 97, 116, 105, 118, 101])), none⟩,
  ⟨none, .fail, none⟩]) : CCode)) false true
def c61_o3 : CCode := (fun (f t : Bool) => (.trim [[], [f]] (.ops [
  ⟨some [f, t, t], .move (.s []), none⟩,
  ⟨some [t, t, t], .len 1 (.s [f, t, t]), none⟩,
  ⟨some [f, f, f, f], .conv .u64 (.s [t, t, t]), none⟩,
  ⟨some [t, f, f, f], .move (.s [f]), none⟩,
  ⟨some [f, t, f, f], .conv .u64 (.s [t, f, f, f]), none⟩,
  ⟨some [t, t, f, f], .call f (.c (.func 69 [])) [(.s [f, f, f, f]), (.s [f, t, f, f])], none⟩,
  ⟨some [t, f, t], .move (.s [t, t, f, f]), none⟩,
  ⟨some [f, f, t, f], .extract 0 (.s [t, f, t]), none⟩,
  ⟨some [t, f, t, f], .extract 1 (.s [t, f, t]), none⟩,
  ⟨some [f, t], .move (.s [f, f, t, f]), none⟩,
  ⟨some [t, t], .move (.s [t, f, t, f]), none⟩]) : CCode)) false true
def c61_o4 : CCode := (fun (f t : Bool) => (.trim [[], [f, t], [t, t]] (.ops [
  ⟨some [f, t, t, f], .move (.s [f, t]), none⟩,
  ⟨some [t, t, t, f], .bin .gtr (.s [f, t, t, f]) (.c (.int .u64 0)), none⟩,
  ⟨some [f, f, f, t], .move (.s [t, t, t, f]), none⟩,
  ⟨some [t, f, f, t], .move (.s [t, t]), some ([f, f, f, t], f)⟩,
  ⟨some [f, t, f, t], .bin .gtr (.s [t, f, f, t]) (.c (.int .u64 9223372036854775807)), some ([f, f, f, t], f)⟩,
  ⟨some [t, t, f, t], .pick (.s [f, f, f, t]) (.c (.bool t)) (.s [f, t, f, t]), none⟩]) : CCode)) false true
def c61_o5 : CCode := (fun (f t : Bool) => (.trim [[], [t, t]] (.ops [
  ⟨some [f, f, t, t], .iface 9 (.c (.str [116, 104, 101, 32, 114, 101, 115, 117, 108, 116, 32, 111, 102, 32, 40, 108, 101, 110, 40, 120, 41, 32, 42, 32, 99, 111, 117, 110, 116, 41, 32, 111, 118, 101, 114, 102, 108, 111, 119, 115])), none⟩,
  ⟨none, .fail, none⟩]) : CCode)) false true
def c61_o6 : CCode := (fun (f t : Bool) => (.trim [[], [t, t]] (.ops [
  ⟨some [t, f, t, t], .move (.s [t, t]), none⟩,
  ⟨some [f, t, t, t], .conv .i64 (.s [t, f, t, t]), none⟩,
  ⟨some [t, t, t, t], .makeSlice none 1 8 [.int .i64 0] (.s [f, t, t, t]), none⟩,
  ⟨some [f, f, f], .move (.s [t, t, t, t]), none⟩]) : CCode)) false true
def c61_o7 : CCode := (fun (f t : Bool) => (.trim [[], [f, f, f]] (.ops [
  ⟨some [f, f, f, f, f], .move (.s [f, f, f]), none⟩,
  ⟨some [t, f, f, f, f], .move (.s []), none⟩,
  ⟨some [f, t, f, f, f], .copy 1 (.s [f, f, f, f, f]) (.s [t, f, f, f, f]), none⟩,
  ⟨some [t, f, f], .move (.s [f, t, f, f, f]), none⟩]) : CCode)) false true
def c61_o8 : CCode := (fun (f t : Bool) => (.trim [[f, f, f], [t, f, f]] (.ops [
  ⟨some [t, t, f, f, f], .move (.s [t, f, f]), none⟩,
  ⟨some [f, f, t, f, f], .move (.s [f, f, f]), none⟩,
  ⟨some [t, f, t, f, f], .len 1 (.s [f, f, t, f, f]), none⟩,
  ⟨some [f, t, t, f, f], .bin .lss (.s [t, t, f, f, f]) (.s [t, f, t, f, f]), none⟩]) : CCode)) false true
def c61_o9 : CCode := (fun (f t : Bool) => (.trim [[f, f, f], [t, f, f]] (.draw 0 [
  ⟨some [t, t, t, f, f], .move (.s [t, f, f]), none⟩,
  ⟨some [f, f, f, t, f], .move (.s [f, f, f]), none⟩,
  ⟨some [t, f, f, t, f], .move (.s [t, f, f]), none⟩,
  ⟨some [f, t, f, t, f], .slSl 1 (.s [f, f, f, t, f]) (some (.s [t, f, f, t, f])) none, none⟩,
  ⟨some [t, t, f, t, f], .move (.s [f, f, f]), none⟩,
  ⟨some [f, f, t, t, f], .move (.s [t, f, f]), none⟩,
  ⟨some [t, f, t, t, f], .slSl 1 (.s [t, t, f, t, f]) none (some (.s [f, f, t, t, f])), none⟩,
  ⟨some [f, t, t, t, f], .copy 1 (.s [f, t, f, t, f]) (.s [t, f, t, t, f]), none⟩,
  ⟨some [t, t, t, t, f], .bin .add (.s [t, t, t, f, f]) (.s [f, t, t, t, f]), none⟩,
  ⟨some [t, f, f], .move (.s [t, t, t, t, f]), none⟩]
  [(3, 6)] [[], [], [], [1, 2], [], [], [4, 5], [1, 2, 3, 4, 5, 6], (r 8), (r 9)]) : CCode)) false true
def c61_b0 : CCode := (fun (f t : Bool) => ((.seq (.seq c61_o8
 (.cond (.s [f, t, t, f, f]) .skip (.exit 0)))
 (.block 1 c61_o9)) : CCode)) false true
def c61_l0 : CCode := (fun (f t : Bool) => (.loop [[f, f, f], [t, f, f]] c61_b0 : CCode)) false true
def c61_o10 : CCode := (fun (f t : Bool) => (.trim [[f, f, f]] (.ops [
  ⟨some [f, f, f, f, t], .move (.s [f, f, f]), none⟩,
  ⟨some [t, f], .move (.s [f, f, f, f, t]), none⟩]) : CCode)) false true
def c61 : CFunc := (fun (f t : Bool) => ({ params := [[], [f]], results := [.slot [t, f]], shared := f, body := (.seq c61_o0
 (.seq (.seq c61_o1
 (.cond (.s [t, t, f]) c61_o2 .skip))
 (.seq c61_o3
 (.seq (.seq c61_o4
 (.cond (.s [t, t, f, t]) c61_o5 .skip))
 (.seq c61_o6
 (.seq c61_o7
 (.seq (.block 0 c61_l0)
 (.seq c61_o10
 .ret)))))))) } : CFunc)) false true
-- numnah/sample.isCourse
-- c62_o0: 0=[] 1=[f]
-- c62_o1: 0=[] 3=[f, f]
-- c62_o2: 0=[] 3=[f, f] 5=[f, t]
-- c62_o3: 
-- c62_o4: 3=[f, f] 5=[f, t]
-- c62_o5: 3=[f, f] 5=[f, t] 23=[f, f, f, t] 24=[t, f, f, t] 25=[f, t, f, t]
-- c62_o6: 3=[f, f] 5=[f, t] 23=[f, f, f, t] 24=[t, f, f, t] 25=[f, t, f, t]
-- c62_o7: 3=[f, f] 5=[f, t] 6=[t, t] 7=[f, f, f] 23=[f, f, f, t] 24=[t, f, f, t] 25=[f, t, f, t]
-- c62_o8: 
-- c62_o9: 3=[f, f] 5=[f, t] 23=[f, f, f, t] 24=[t, f, f, t] 25=[f, t, f, t]
-- c62_l0: live slots [3, 5, 23, 24, 25]
-- c62_o10: 3=[f, f] 5=[f, t]
def c62_o0 : CCode := (fun (f t : Bool) => (.trim [[], [f]] (.ops [
  ⟨some [f, f], .box none (.s [f]), none⟩,
  ⟨some [t, f], .move (.c (.bool f)), none⟩]) : CCode)) false true
def c62_o1 : CCode := (fun (f t : Bool) => (.trim [[], [f, f]] (.ops [
  ⟨some [t, f, f], .fieldAddr 0 (.s [f, f]), none⟩,
  ⟨some [f, t, f], .load none (.s [t, f, f]), none⟩,
  ⟨some [t, t, f], .len 1 (.s [f, t, f]), none⟩,
  ⟨some [f, t], .move (.s [t, t, f]), none⟩]) : CCode)) false true
def c62_o2 : CCode := (fun (f t : Bool) => (.trim [[], [f, f], [f, t]] (.ops [
  ⟨some [f, f, t], .move (.s [f, t]), none⟩,
  ⟨some [t, f, t], .move (.s []), none⟩,
  ⟨some [f, t, t], .call f (.c (.func 67 [])) [(.s [f, f, t]), (.c (.int .i64 1)), (.s [t, f, t])], none⟩,
  ⟨some [t, t, t], .un .not (.s [f, t, t]), none⟩,
  ⟨some [f, f, f, f], .move (.s [t, t, t]), none⟩,
  ⟨some [t, f, f, f], .fieldAddr 1 (.s [f, f]), some ([f, f, f, f], f)⟩,
  ⟨some [f, t, f, f], .load none (.s [t, f, f, f]), some ([f, f, f, f], f)⟩,
  ⟨some [t, t, f, f], .len 1 (.s [f, t, f, f]), some ([f, f, f, f], f)⟩,
  ⟨some [f, f, t, f], .move (.s [f, t]), some ([f, f, f, f], f)⟩,
  ⟨some [t, f, t, f], .bin .neq (.s [t, t, f, f]) (.s [f, f, t, f]), some ([f, f, f, f], f)⟩,
  ⟨some [f, t, t, f], .pick (.s [f, f, f, f]) (.c (.bool t)) (.s [t, f, t, f]), none⟩]) : CCode)) false true
def c62_o3 : CCode := (fun (f t : Bool) => (.trim [] (.ops [
  ⟨some [t, f], .move (.c (.bool f)), none⟩]) : CCode)) false true
def c62_o4 : CCode := (fun (f t : Bool) => (.trim [[f, f], [f, t]] (.ops [
  ⟨some [t, t, t, f], .fieldAddr 0 (.s [f, f]), none⟩,
  ⟨some [f, f, f, t], .load none (.s [t, t, t, f]), none⟩,
  ⟨some [t, f, f, t], .len 1 (.s [f, f, f, t]), none⟩,
  ⟨some [f, t, f, t], .move (.c (.int .i64 0)), none⟩]) : CCode)) false true
def c62_o5 : CCode := (fun (f t : Bool) => (.trim [[f, f], [f, t], [f, f, f, t], [t, f, f, t], [f, t, f, t]] (.ops [
  ⟨some [t, t, f, t], .bin .lss (.s [f, t, f, t]) (.s [t, f, f, t]), none⟩]) : CCode)) false true
def c62_o6 : CCode := (fun (f t : Bool) => (.trim [[f, f], [f, t], [f, f, f, t], [t, f, f, t], [f, t, f, t]] (.ops [
  ⟨some [f, f, t, t], .move (.s [f, t, f, t]), none⟩,
  ⟨some [t, f, t, t], .idxSl 1 (.s [f, f, f, t]) (.s [f, t, f, t]), none⟩,
  ⟨some [f, t, t, t], .load none (.s [t, f, t, t]), none⟩,
  ⟨some [t, t], .move (.s [f, f, t, t]), none⟩,
  ⟨some [f, f, f], .move (.s [f, t, t, t]), none⟩]) : CCode)) false true
def c62_o7 : CCode := (fun (f t : Bool) => (.trim [[f, f], [f, t], [t, t], [f, f, f], [f, f, f, t], [t, f, f, t], [f, t, f, t]] (.ops [
  ⟨some [t, t, t, t], .move (.s [f, f, f]), none⟩,
  ⟨some [f, f, f, f, f], .move (.s [f, t]), none⟩,
  ⟨some [t, f, f, f, f], .bin .add (.s [f, f, f, f, f]) (.c (.int .i64 1)), none⟩,
  ⟨some [f, t, f, f, f], .call f (.c (.func 67 [])) [(.s [t, t, t, t]), (.c (.int .i64 (-1))), (.s [t, f, f, f, f])], none⟩,
  ⟨some [t, t, f, f, f], .un .not (.s [f, t, f, f, f]), none⟩,
  ⟨some [f, f, t, f, f], .move (.s [t, t, f, f, f]), none⟩,
  ⟨some [t, f, t, f, f], .fieldAddr 1 (.s [f, f]), some ([f, f, t, f, f], f)⟩,
  ⟨some [f, t, t, f, f], .load none (.s [t, f, t, f, f]), some ([f, f, t, f, f], f)⟩,
  ⟨some [t, t, t, f, f], .move (.s [t, t]), some ([f, f, t, f, f], f)⟩,
  ⟨some [f, f, f, t, f], .idxSl 1 (.s [f, t, t, f, f]) (.s [t, t, t, f, f]), some ([f, f, t, f, f], f)⟩,
  ⟨some [t, f, f, t, f], .load none (.s [f, f, f, t, f]), some ([f, f, t, f, f], f)⟩,
  ⟨some [f, t, f, t, f], .move (.s [f, f, f]), some ([f, f, t, f, f], f)⟩,
  ⟨some [t, t, f, t, f], .bin .add (.s [f, t, f, t, f]) (.c (.int .i64 1)), some ([f, f, t, f, f], f)⟩,
  ⟨some [f, f, t, t, f], .move (.s [f, t]), some ([f, f, t, f, f], f)⟩,
  ⟨some [t, f, t, t, f], .bin .add (.s [f, f, t, t, f]) (.c (.int .i64 1)), some ([f, f, t, f, f], f)⟩,
  ⟨some [f, t, t, t, f], .call f (.c (.func 67 [])) [(.s [t, f, f, t, f]), (.s [t, t, f, t, f]), (.s [t, f, t, t, f])], some ([f, f, t, f, f], f)⟩,
  ⟨some [t, t, t, t, f], .un .not (.s [f, t, t, t, f]), some ([f, f, t, f, f], f)⟩,
  ⟨some [f, f, f, f, t], .pick (.s [f, f, t, f, f]) (.c (.bool t)) (.s [t, t, t, t, f]), none⟩]) : CCode)) false true
def c62_o8 : CCode := (fun (f t : Bool) => (.trim [] (.ops [
  ⟨some [t, f], .move (.c (.bool f)), none⟩]) : CCode)) false true
def c62_o9 : CCode := (fun (f t : Bool) => (.trim [[f, f], [f, t], [f, f, f, t], [t, f, f, t], [f, t, f, t]] (.ops [
  ⟨some [t, f, f, f, t], .bin .add (.s [f, t, f, t]) (.c (.int .i64 1)), none⟩,
  ⟨some [f, t, f, t], .move (.s [t, f, f, f, t]), none⟩]) : CCode)) false true
def c62_b0 : CCode := (fun (f t : Bool) => ((.seq c62_o5
 (.seq (.cond (.s [t, t, f, t]) .skip (.exit 0))
 (.seq (.block 1 (.seq c62_o6
 (.seq c62_o7
 (.cond (.s [f, f, f, f, t]) (.seq c62_o8
 .ret) .skip))))
 c62_o9))) : CCode)) false true
def c62_l0 : CCode := (fun (f t : Bool) => (.loop [[f, f], [f, t], [f, f, f, t], [t, f, f, t], [f, t, f, t]] c62_b0 : CCode)) false true
def c62_o10 : CCode := (fun (f t : Bool) => (.trim [[f, f], [f, t]] (.draw 0 [
  ⟨some [f, t, f, f, t], .fieldAddr 1 (.s [f, f]), none⟩,
  ⟨some [t, t, f, f, t], .load none (.s [f, t, f, f, t]), none⟩,
  ⟨some [f, f, t, f, t], .move (.s [f, t]), none⟩,
  ⟨some [t, f, t, f, t], .bin .sub (.s [f, f, t, f, t]) (.c (.int .i64 1)), none⟩,
  ⟨some [f, t, t, f, t], .idxSl 1 (.s [t, t, f, f, t]) (.s [t, f, t, f, t]), none⟩,
  ⟨some [t, t, t, f, t], .load none (.s [f, t, t, f, t]), none⟩,
  ⟨some [f, f, f, t, t], .fieldAddr 0 (.s [f, f]), none⟩,
  ⟨some [t, f, f, t, t], .load none (.s [f, f, f, t, t]), none⟩,
  ⟨some [f, t, f, t, t], .move (.s [f, t]), none⟩,
  ⟨some [t, t, f, t, t], .bin .sub (.s [f, t, f, t, t]) (.c (.int .i64 1)), none⟩,
  ⟨some [f, f, t, t, t], .idxSl 1 (.s [t, f, f, t, t]) (.s [t, t, f, t, t]), none⟩,
  ⟨some [t, f, t, t, t], .load none (.s [f, f, t, t, t]), none⟩,
  ⟨some [f, t, t, t, t], .bin .add (.s [t, f, t, t, t]) (.c (.int .i64 1)), none⟩,
  ⟨some [t, t, t, t, t], .bin .eql (.s [t, t, t, f, t]) (.s [f, t, t, t, t]), none⟩,
  ⟨some [t, f], .move (.s [t, t, t, t, t]), none⟩]
  [(1, 7), (5, 7), (1, 11), (5, 11)] [[], [0], [], [2], [0, 1, 2, 3], (r 5), [], [6], [], [8], [6, 7, 8, 9], [6, 7, 8, 9, 10], [6, 7, 8, 9, 10, 11], (r 13), (r 14)]) : CCode)) false true
def c62 : CFunc := (fun (f t : Bool) => ({ params := [[], [f]], results := [.slot [t, f]], shared := f, body := (.seq c62_o0
 (.seq c62_o1
 (.seq (.seq c62_o2
 (.cond (.s [f, t, t, f]) (.seq c62_o3
 .ret) .skip))
 (.seq (.seq c62_o4
 (.block 0 c62_l0))
 (.seq c62_o10
 .ret))))) } : CFunc)) false true
-- (*numnah/sample.triangle).stops
-- c63_o0: 0=[] 1=[f] 2=[t] 3=[f, f]
-- c63_o1: 4=[t, f] 5=[f, t] 6=[t, t] 7=[f, f, f]
def c63_o0 : CCode := (fun (f t : Bool) => (.trim [[], [f], [t], [f, f]] (.ops [
  ⟨some [t, f], .box none (.s []), none⟩,
  ⟨some [f, t], .box none (.s [f]), none⟩,
  ⟨some [t, t], .box none (.s [t]), none⟩,
  ⟨some [f, f, f], .box none (.s [f, f]), none⟩,
  ⟨some [t, f, f], .move (.c (.nilf)), none⟩]) : CCode)) false true
def c63_o1 : CCode := (fun (f t : Bool) => (.trim [[t, f], [f, t], [t, t], [f, f, f]] (.ops [
  ⟨some [f, t, f], .makeFunc 70 [(.s [f, f, f]), (.s [t, f]), (.s [f, t]), (.s [t, t])], none⟩,
  ⟨some [t, f, f], .move (.s [f, t, f]), none⟩]) : CCode)) false true
def c63 : CFunc := (fun (f t : Bool) => ({ params := [[], [f], [t], [f, f]], results := [.slot [t, f, f]], shared := f, body := (.seq c63_o0
 (.seq c63_o1
 .ret)) } : CFunc)) false true
-- numnah/numnahlaw05.list
-- c64_o0: 0=[]
-- c64_o1: 0=[]
-- c64_o2: 0=[] 3=[f, f]
def c64_o0 : CCode := (fun (f t : Bool) => (.trim [[]] (.ops [
  ⟨some [t], .move (.c (.nils)), none⟩]) : CCode)) false true
def c64_o1 : CCode := (fun (f t : Bool) => (.trim [[]] (.ops [
  ⟨some [f, f], .move (.c (.nils)), none⟩]) : CCode)) false true
def c64_o2 : CCode := (fun (f t : Bool) => (.trim [[], [f, f]] (.ops [
  ⟨some [t, f], .move (.s [f, f]), none⟩,
  ⟨some [f, t], .move (.s []), none⟩,
  ⟨some [t, t], .move (.s []), none⟩,
  ⟨some [f, f, f], .len 1 (.s [t, t]), none⟩,
  ⟨some [t, f, f], .minmax f (.s [f, f, f]) (.c (.int .i64 37)), none⟩,
  ⟨some [f, t, f], .slSl 1 (.s [f, t]) none (some (.s [t, f, f])), none⟩,
  ⟨some [t, t, f], .append none 1 8 (.s [t, f]) (.s [f, t, f]), none⟩,
  ⟨some [t], .move (.s [t, t, f]), none⟩]) : CCode)) false true
def c64 : CFunc := (fun (f t : Bool) => ({ params := [[]], results := [.slot [t]], shared := f, body := (.seq c64_o0
 (.seq c64_o1
 (.seq c64_o2
 .ret))) } : CFunc)) false true
-- numnah/numnahref05.Decide
-- c65_o0: 0=[] 1=[f] 2=[t]
-- c65_o1: 1=[f] 2=[t] 3=[f, f]
-- c65_o2: 
-- c65_o3: 1=[f] 2=[t] 3=[f, f]
-- c65_o4: 
-- c65_o5: 
def c65_o0 : CCode := (fun (f t : Bool) => (.trim [[], [f], [t]] (.ops [
  ⟨some [f, f], .box none (.s []), none⟩,
  ⟨some [t, t], .move (.c (.int .i64 0)), none⟩]) : CCode)) false true
def c65_o1 : CCode := (fun (f t : Bool) => (.trim [[f], [t], [f, f]] (.ops [
  ⟨some [f, f, f], .move (.s [t]), none⟩,
  ⟨some [t, f, f], .fieldAddr 0 (.s [f, f]), none⟩,
  ⟨some [f, t, f], .load none (.s [t, f, f]), none⟩,
  ⟨some [t, t, f], .move (.s [f]), none⟩,
  ⟨some [f, f, t], .bin .sub (.s [t, t, f]) (.c (.int .i64 1)), none⟩,
  ⟨some [t, f, t], .idxSl 1 (.s [f, t, f]) (.s [f, f, t]), none⟩,
  ⟨some [f, t, t], .load none (.s [t, f, t]), none⟩,
  ⟨some [t, t, t], .bin .leq (.s [f, f, f]) (.s [f, t, t]), none⟩]) : CCode)) false true
def c65_o2 : CCode := (fun (f t : Bool) => (.trim [] (.ops [
  ⟨some [t, t], .move (.c (.int .i64 1)), none⟩]) : CCode)) false true
def c65_o3 : CCode := (fun (f t : Bool) => (.trim [[f], [t], [f, f]] (.ops [
  ⟨some [f, f, f, f], .move (.s [t]), none⟩,
  ⟨some [t, f, f, f], .fieldAddr 1 (.s [f, f]), none⟩,
  ⟨some [f, t, f, f], .load none (.s [t, f, f, f]), none⟩,
  ⟨some [t, t, f, f], .move (.s [f]), none⟩,
  ⟨some [f, f, t, f], .bin .sub (.s [t, t, f, f]) (.c (.int .i64 1)), none⟩,
  ⟨some [t, f, t, f], .idxSl 1 (.s [f, t, f, f]) (.s [f, f, t, f]), none⟩,
  ⟨some [f, t, t, f], .load none (.s [t, f, t, f]), none⟩,
  ⟨some [t, t, t, f], .bin .geq (.s [f, f, f, f]) (.s [f, t, t, f]), none⟩]) : CCode)) false true
def c65_o4 : CCode := (fun (f t : Bool) => (.trim [] (.ops [
  ⟨some [t, t], .move (.c (.int .i64 (-1))), none⟩]) : CCode)) false true
def c65_o5 : CCode := (fun (f t : Bool) => (.trim [] (.ops [
  ⟨some [t, t], .move (.c (.int .i64 0)), none⟩]) : CCode)) false true
def c65 : CFunc := (fun (f t : Bool) => ({ params := [[], [f], [t]], results := [.slot [t, t]], shared := f, body := (.seq c65_o0
 (.seq (.seq c65_o1
 (.cond (.s [t, t, t]) (.seq c65_o2
 .ret) .skip))
 (.seq (.seq c65_o3
 (.cond (.s [t, t, t, f]) (.seq c65_o4
 .ret) .skip))
 (.seq c65_o5
 .ret)))) } : CFunc)) false true
-- numnah/sample.within
def c67 : CFunc := (fun (f t : Bool) => ({ params := [[], [f], [t]], results := [.slot [t, t]], shared := f, body := (.seq (.ops [
  ⟨some [t, t], .move (.c (.bool f)), none⟩])
 (.seq (.ops [
  ⟨some [f, f, f], .move (.s []), none⟩,
  ⟨some [t, f, f], .move (.s [f]), none⟩,
  ⟨some [f, t, f], .bin .geq (.s [f, f, f]) (.s [t, f, f]), none⟩,
  ⟨some [t, t, f], .move (.s [f, t, f]), none⟩,
  ⟨some [f, f, t], .move (.s []), some ([t, t, f], t)⟩,
  ⟨some [t, f, t], .move (.s [t]), some ([t, t, f], t)⟩,
  ⟨some [f, t, t], .bin .leq (.s [f, f, t]) (.s [t, f, t]), some ([t, t, f], t)⟩,
  ⟨some [t, t, t], .pick (.s [t, t, f]) (.s [f, t, t]) (.c (.bool f)), none⟩,
  ⟨some [t, t], .move (.s [t, t, t]), none⟩])
 .ret)) } : CFunc)) false true
-- numnah/sample.gcd
-- c68_l0: live slots [0, 1]
def c68_b0 : CCode := (fun (f t : Bool) => ((.seq (.seq (.ops [
  ⟨some [f, t], .move (.s [f]), none⟩,
  ⟨some [t, t], .bin .gtr (.s [f, t]) (.c (.int .i64 0)), none⟩])
 (.cond (.s [t, t]) .skip (.exit 0)))
 (.block 1 (.draw 0 [
  ⟨some [f, f, f], .move (.s [f]), none⟩,
  ⟨some [t, f, f], .move (.s []), none⟩,
  ⟨some [f, t, f], .move (.s [f]), none⟩,
  ⟨some [t, t, f], .bin .rem (.s [t, f, f]) (.s [f, t, f]), none⟩,
  ⟨some [], .move (.s [f, f, f]), none⟩,
  ⟨some [f], .move (.s [t, t, f]), none⟩]
  [] [[], [], [], [1, 2], [0, 1], (r 5)]))) : CCode)) false true
def c68_l0 : CCode := (fun (f t : Bool) => (.loop [[], [f]] c68_b0 : CCode)) false true
def c68 : CFunc := (fun (f t : Bool) => ({ params := [[], [f]], results := [.slot [t, f]], shared := f, body := (.seq (.ops [
  ⟨some [t, f], .move (.c (.int .i64 0)), none⟩])
 (.seq (.block 0 c68_l0)
 (.seq (.ops [
  ⟨some [f, f, t], .move (.s []), none⟩,
  ⟨some [t, f], .move (.s [f, f, t]), none⟩])
 .ret))) } : CFunc)) false true

end Go.Proofs.Ytlkgpcfhpeilhaa.Ev
