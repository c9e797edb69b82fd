/-
  The code of the program's functions as the evaluator takes it, printed by wip/tool/emit.py. SCheck ties each to the translation. No condition.
-/
import Derived.Test.YtjeemgaoonapgaaEv
namespace Go.Proofs.Ytjeemgaoonapgaa.Ev
open Go Go.AEv
set_option linter.unusedVariables false
private abbrev r := List.range
def c3_o0 : CCode := (fun (f t : Bool) => (.trim [[], [f]] (.ops [
  ⟨some [t, f], .move (.c (.bool f)), none⟩]) : CCode)) false true
def c3_o1 : CCode := (fun (f t : Bool) => (.trim [[], [f]] (.ops [
  ⟨some [t, t, t], .move (.s []), none⟩,
  ⟨some [f, f, f, f], .call f (.c (.func 17 [])) [(.s [t, t, t])], none⟩,
  ⟨some [t, f, f, f], .move (.s [f]), none⟩,
  ⟨some [f, t, f, f], .call f (.c (.func 18 [])) [(.s [t, f, f, f])], none⟩,
  ⟨some [f, t], .move (.s [f, f, f, f]), none⟩,
  ⟨some [t, t], .move (.s [f, t, f, f]), none⟩]) : CCode)) false true
def c3_o2 : CCode := (fun (f t : Bool) => (.trim [[f, t], [t, t]] (.ops [
  ⟨some [f, f, t, f], .move (.s [f, t]), none⟩,
  ⟨some [t, f, t, f], .move (.s [t, t]), none⟩,
  ⟨some [f, t, t, f], .call f (.c (.func 19 [])) [(.s [f, f, t, f]), (.s [t, f, t, f])], none⟩,
  ⟨some [t, t, f, f], .move (.s [f, t, t, f]), none⟩,
  ⟨some [t, t, t, f], .extract 0 (.s [t, t, f, f]), none⟩,
  ⟨some [f, f, f, t], .extract 1 (.s [t, t, f, f]), none⟩,
  ⟨some [f, f, f], .move (.s [t, t, t, f]), none⟩,
  ⟨some [t, f, f], .move (.s [f, f, f, t]), none⟩]) : CCode)) false true
def c3_o3 : CCode := (fun (f t : Bool) => (.trim [[f, t], [t, t], [f, f, f], [t, f, f]] (.ops [
  ⟨some [f, t, f, t], .move (.s [f, t]), none⟩,
  ⟨some [t, t, f, t], .move (.s [t, t]), none⟩,
  ⟨some [f, f, t, t], .call f (.c (.func 20 [])) [(.s [f, t, f, t]), (.s [t, t, f, t])], none⟩,
  ⟨some [t, f, f, t], .move (.s [f, f, t, t]), none⟩,
  ⟨some [t, f, t, t], .extract 0 (.s [t, f, f, t]), none⟩,
  ⟨some [f, t, t, t], .extract 1 (.s [t, f, f, t]), none⟩,
  ⟨some [t, t, t, t], .extract 2 (.s [t, f, f, t]), none⟩,
  ⟨some [f, t, f], .alloc none [.int .i64 0, .int .i64 0], none⟩,
  ⟨some [t, t, f], .alloc none [.int .i64 0, .int .i64 0], none⟩,
  ⟨none, .store 2 (.s [f, t, f]) (.s [t, f, t, t]), none⟩,
  ⟨none, .store 2 (.s [t, t, f]) (.s [f, t, t, t]), none⟩,
  ⟨some [f, f, t], .move (.s [t, t, t, t]), none⟩]) : CCode)) false true
def c3_o4 : CCode := (fun (f t : Bool) => (.trim [[f, t], [t, t], [f, f, f], [t, f, f], [f, t, f], [t, t, f], [f, f, t]] (.ops [
  ⟨some [f, f, f, f, f], .move (.s [f, t]), none⟩,
  ⟨some [t, f, f, f, f], .call f (.c (.func 21 [])) [(.s [f, f, f, f, f])], none⟩,
  ⟨some [f, t, f, f, f], .un .not (.s [t, f, f, f, f]), none⟩,
  ⟨some [t, t, f, f, f], .move (.s [f, t, f, f, f]), none⟩,
  ⟨some [f, f, t, f, f], .move (.s [t, t]), some ([t, t, f, f, f], f)⟩,
  ⟨some [t, f, t, f, f], .move (.s [f, t]), some ([t, t, f, f, f], f)⟩,
  ⟨some [f, t, t, f, f], .len 1 (.s [t, f, t, f, f]), some ([t, t, f, f, f], f)⟩,
  ⟨some [t, t, t, f, f], .call f (.c (.func 22 [])) [(.s [f, f, t, f, f]), (.s [f, t, t, f, f]), (.c (.int .i64 0))], some ([t, t, f, f, f], f)⟩,
  ⟨some [f, f, f, t, f], .un .not (.s [t, t, t, f, f]), some ([t, t, f, f, f], f)⟩,
  ⟨some [t, f, f, t, f], .pick (.s [t, t, f, f, f]) (.c (.bool t)) (.s [f, f, f, t, f]), none⟩]) : CCode)) false true
def c3_o5 : CCode := (fun (f t : Bool) => (.trim [[f, f, f], [t, f, f], [f, t, f], [t, t, f], [f, f, t]] (.ops [
  ⟨some [f, t, f, t, f], .move (.s [f, f, f]), none⟩,
  ⟨some [t, t, f, t, f], .len 1 (.s [f, t, f, t, f]), none⟩,
  ⟨some [f, f, t, t, f], .bin .eql (.s [t, t, f, t, f]) (.c (.int .i64 0)), none⟩,
  ⟨some [t, f, t, t, f], .move (.s [f, f, t, t, f]), none⟩,
  ⟨some [f, t, t, t, f], .move (.s [t, f, f]), some ([t, f, t, t, f], t)⟩,
  ⟨some [t, t, t, t, f], .bin .eql (.s [f, t, t, t, f]) (.c (.int .i64 2)), some ([t, f, t, t, f], t)⟩,
  ⟨some [f, f, f, f, t], .pick (.s [t, f, t, t, f]) (.s [t, t, t, t, f]) (.c (.bool f)), none⟩,
  ⟨some [t, f, f, f, t], .move (.s [f, f, f, f, t]), none⟩,
  ⟨some [f, t, f, f, t], .load (some 2) (.s [f, t, f]), some ([t, f, f, f, t], t)⟩,
  ⟨some [t, t, f, f, t], .build [.int .i64 0, .int .i64 0] [], some ([t, f, f, f, t], t)⟩,
  ⟨some [f, f, t, f, t], .eqa [.i .i64, .i .i64] f (.s [f, t, f, f, t]) (.s [t, t, f, f, t]), some ([t, f, f, f, t], t)⟩,
  ⟨some [t, f, t, f, t], .pick (.s [t, f, f, f, t]) (.s [f, f, t, f, t]) (.c (.bool f)), none⟩,
  ⟨some [f, t, t, f, t], .move (.s [t, f, t, f, t]), none⟩,
  ⟨some [t, t, t, f, t], .load (some 2) (.s [t, t, f]), some ([f, t, t, f, t], t)⟩,
  ⟨some [f, f, f, t, t], .build [.int .i64 0, .int .i64 0] [], some ([f, t, t, f, t], t)⟩,
  ⟨some [t, f, f, t, t], .eqa [.i .i64, .i .i64] f (.s [t, t, t, f, t]) (.s [f, f, f, t, t]), some ([f, t, t, f, t], t)⟩,
  ⟨some [f, t, f, t, t], .pick (.s [f, t, t, f, t]) (.s [t, f, f, t, t]) (.c (.bool f)), none⟩,
  ⟨some [t, t, f, t, t], .move (.s [f, t, f, t, t]), none⟩,
  ⟨some [f, f, t, t, t], .move (.s [f, f, t]), some ([t, t, f, t, t], t)⟩,
  ⟨some [t, f, t, t, t], .bin .eql (.s [f, f, t, t, t]) (.c (.int .i64 2)), some ([t, t, f, t, t], t)⟩,
  ⟨some [f, t, t, t, t], .pick (.s [t, t, f, t, t]) (.s [t, f, t, t, t]) (.c (.bool f)), none⟩,
  ⟨some [t, t, t, t, t], .move (.s [f, t, t, t, t]), none⟩,
  ⟨some [f, f, f, f, f, f], .call f (.c (.func 23 [])) [], some ([t, t, t, t, t], t)⟩,
  ⟨some [t, f, f, f, f, f], .pick (.s [t, t, t, t, t]) (.s [f, f, f, f, f, f]) (.c (.bool f)), none⟩,
  ⟨some [t, f], .move (.s [t, f, f, f, f, f]), none⟩]) : CCode)) false true
def c3_o6 : CCode := (fun (f t : Bool) => (.trim [[f, t], [t, t], [f, f, f], [t, f, f], [f, t, f], [t, t, f], [f, f, t]] (.ops [
  ⟨some [f, t, f, f, f, f], .move (.s [f, f, f]), none⟩,
  ⟨some [t, t, f, f, f, f], .move (.s [f, t]), none⟩,
  ⟨some [f, f, t, f, f, f], .move (.s [t, t]), none⟩,
  ⟨some [t, f, t, f, f, f], .call f (.c (.func 25 [])) [(.s [t, t, f, f, f, f]), (.s [f, f, t, f, f, f])], none⟩,
  ⟨some [f, t, t, f, f, f], .call f (.c (.func 24 [])) [(.s [f, t, f, f, f, f]), (.s [t, f, t, f, f, f])], none⟩,
  ⟨some [t, t, t, f, f, f], .un .not (.s [f, t, t, f, f, f]), none⟩,
  ⟨some [f, f, f, t, f, f], .move (.s [t, t, t, f, f, f]), none⟩,
  ⟨some [t, f, f, t, f, f], .move (.s [t, f, f]), some ([f, f, f, t, f, f], f)⟩,
  ⟨some [f, t, f, t, f, f], .bin .neq (.s [t, f, f, t, f, f]) (.c (.int .i64 0)), some ([f, f, f, t, f, f], f)⟩,
  ⟨some [t, t, f, t, f, f], .pick (.s [f, f, f, t, f, f]) (.c (.bool t)) (.s [f, t, f, t, f, f]), none⟩]) : CCode)) false true
def c3_o7 : CCode := (fun (f t : Bool) => (.trim [] (.ops [
  ⟨some [t, f], .move (.c (.bool f)), none⟩]) : CCode)) false true
def c3_o8 : CCode := (fun (f t : Bool) => (.trim [[f, t], [t, t], [f, t, f], [t, t, f], [f, f, t]] (.ops [
  ⟨some [f, f, t, t, f, f], .move (.s [t, t]), none⟩,
  ⟨some [t, f, t, t, f, f], .move (.s [f, t]), none⟩,
  ⟨some [f, t, t, t, f, f], .len 1 (.s [t, f, t, t, f, f]), none⟩,
  ⟨some [t, t, t, t, f, f], .call f (.c (.func 22 [])) [(.s [f, f, t, t, f, f]), (.s [f, t, t, t, f, f]), (.c (.int .i64 1))], none⟩,
  ⟨some [f, f, f, f, t, f], .un .not (.s [t, t, t, t, f, f]), none⟩]) : CCode)) false true
def c3_o9 : CCode := (fun (f t : Bool) => (.trim [[f, t, f], [t, t, f], [f, f, t]] (.ops [
  ⟨some [t, f, f, f, t, f], .load (some 2) (.s [f, t, f]), none⟩,
  ⟨some [f, t, f, f, t, f], .build [.int .i64 0, .int .i64 0] [], none⟩,
  ⟨some [t, t, f, f, t, f], .eqa [.i .i64, .i .i64] f (.s [t, f, f, f, t, f]) (.s [f, t, f, f, t, f]), none⟩,
  ⟨some [f, f, t, f, t, f], .move (.s [t, t, f, f, t, f]), none⟩,
  ⟨some [t, f, t, f, t, f], .load (some 2) (.s [t, t, f]), some ([f, f, t, f, t, f], t)⟩,
  ⟨some [f, t, t, f, t, f], .build [.int .i64 0, .int .i64 0] [], some ([f, f, t, f, t, f], t)⟩,
  ⟨some [t, t, t, f, t, f], .eqa [.i .i64, .i .i64] f (.s [t, f, t, f, t, f]) (.s [f, t, t, f, t, f]), some ([f, f, t, f, t, f], t)⟩,
  ⟨some [f, f, f, t, t, f], .pick (.s [f, f, t, f, t, f]) (.s [t, t, t, f, t, f]) (.c (.bool f)), none⟩,
  ⟨some [t, f, f, t, t, f], .move (.s [f, f, f, t, t, f]), none⟩,
  ⟨some [f, t, f, t, t, f], .move (.s [f, f, t]), some ([t, f, f, t, t, f], t)⟩,
  ⟨some [t, t, f, t, t, f], .bin .eql (.s [f, t, f, t, t, f]) (.c (.int .i64 2)), some ([t, f, f, t, t, f], t)⟩,
  ⟨some [f, f, t, t, t, f], .pick (.s [t, f, f, t, t, f]) (.s [t, t, f, t, t, f]) (.c (.bool f)), none⟩,
  ⟨some [t, f, t, t, t, f], .move (.s [f, f, t, t, t, f]), none⟩,
  ⟨some [f, t, t, t, t, f], .call f (.c (.func 23 [])) [], some ([t, f, t, t, t, f], t)⟩,
  ⟨some [t, t, t, t, t, f], .pick (.s [t, f, t, t, t, f]) (.s [f, t, t, t, t, f]) (.c (.bool f)), none⟩,
  ⟨some [t, f], .move (.s [t, t, t, t, t, f]), none⟩]) : CCode)) false true
def c3_o10 : CCode := (fun (f t : Bool) => (.trim [[f, t], [t, t], [f, t, f], [t, t, f], [f, f, t]] (.ops [
  ⟨some [t, f, f, f, f, t], .move (.s [f, t]), none⟩,
  ⟨some [f, t, f, f, f, t], .move (.s [t, t]), none⟩,
  ⟨some [t, t, f, f, f, t], .call f (.c (.func 26 [])) [(.s [t, f, f, f, f, t]), (.s [f, t, f, f, f, t])], none⟩,
  ⟨some [f, f, f, f, f, t], .move (.s [t, t, f, f, f, t]), none⟩,
  ⟨some [f, f, t, f, f, t], .extract 0 (.s [f, f, f, f, f, t]), none⟩,
  ⟨some [t, f, t, f, f, t], .extract 1 (.s [f, f, f, f, f, t]), none⟩,
  ⟨some [t, f, t], .alloc none [.int .i64 0, .int .i64 0], none⟩,
  ⟨some [f, t, t], .alloc none [.int .i64 0, .int .i64 0], none⟩,
  ⟨none, .store 2 (.s [t, f, t]) (.s [f, f, t, f, f, t]), none⟩,
  ⟨none, .store 2 (.s [f, t, t]) (.s [t, f, t, f, f, t]), none⟩]) : CCode)) false true
def c3_o11 : CCode := (fun (f t : Bool) => (.trim [[f, t, f], [t, t, f], [f, f, t], [t, f, t], [f, t, t]] (.ops [
  ⟨some [f, t, t, f, f, t], .load (some 2) (.s [f, t, f]), none⟩,
  ⟨some [t, t, t, f, f, t], .load (some 2) (.s [t, f, t]), none⟩,
  ⟨some [f, f, f, t, f, t], .eqa [.i .i64, .i .i64] f (.s [f, t, t, f, f, t]) (.s [t, t, t, f, f, t]), none⟩,
  ⟨some [t, f, f, t, f, t], .move (.s [f, f, f, t, f, t]), none⟩,
  ⟨some [f, t, f, t, f, t], .load (some 2) (.s [t, t, f]), some ([t, f, f, t, f, t], t)⟩,
  ⟨some [t, t, f, t, f, t], .load (some 2) (.s [f, t, t]), some ([t, f, f, t, f, t], t)⟩,
  ⟨some [f, f, t, t, f, t], .eqa [.i .i64, .i .i64] f (.s [f, t, f, t, f, t]) (.s [t, t, f, t, f, t]), some ([t, f, f, t, f, t], t)⟩,
  ⟨some [t, f, t, t, f, t], .pick (.s [t, f, f, t, f, t]) (.s [f, f, t, t, f, t]) (.c (.bool f)), none⟩,
  ⟨some [f, t, t, t, f, t], .move (.s [t, f, t, t, f, t]), none⟩,
  ⟨some [t, t, t, t, f, t], .move (.s [f, f, t]), some ([f, t, t, t, f, t], t)⟩,
  ⟨some [f, f, f, f, t, t], .bin .eql (.s [t, t, t, t, f, t]) (.c (.int .i64 0)), some ([f, t, t, t, f, t], t)⟩,
  ⟨some [t, f, f, f, t, t], .pick (.s [f, t, t, t, f, t]) (.s [f, f, f, f, t, t]) (.c (.bool f)), none⟩,
  ⟨some [f, t, f, f, t, t], .move (.s [t, f, f, f, t, t]), none⟩,
  ⟨some [t, t, f, f, t, t], .call f (.c (.func 23 [])) [], some ([f, t, f, f, t, t], t)⟩,
  ⟨some [f, f, t, f, t, t], .pick (.s [f, t, f, f, t, t]) (.s [t, t, f, f, t, t]) (.c (.bool f)), none⟩,
  ⟨some [t, f], .move (.s [f, f, t, f, t, t]), none⟩]) : CCode)) false true
def c3 : CFunc := (fun (f t : Bool) => ({ params := [[], [f]], results := [.slot [t, f]], shared := f, body := (.seq c3_o0
 (.seq c3_o1
 (.seq c3_o2
 (.seq c3_o3
 (.seq (.seq c3_o4
 (.cond (.s [t, f, f, t, f]) (.seq c3_o5
 .ret) .skip))
 (.seq (.seq c3_o6
 (.cond (.s [t, t, f, t, f, f]) (.seq c3_o7
 .ret) .skip))
 (.seq (.seq c3_o8
 (.cond (.s [f, f, f, f, t, f]) (.seq c3_o9
 .ret) .skip))
 (.seq c3_o10
 (.seq c3_o11
 .ret))))))))) } : CFunc)) false true
def c11_o0 : CCode := (fun (f t : Bool) => (.trim [[], [f]] (.ops [
  ⟨some [t, f], .move (.c (.bool f)), none⟩]) : CCode)) false true
def c11_o1 : CCode := (fun (f t : Bool) => (.trim [[], [f]] (.ops [
  ⟨some [f, t, f, f], .move (.s []), none⟩,
  ⟨some [t, t, f, f], .call f (.c (.func 27 [])) [(.s [f, t, f, f]), (.c (.int .i64 5))], none⟩,
  ⟨some [f, f, t, f], .bin .add (.c (.int .i64 1)) (.s [t, t, f, f]), none⟩,
  ⟨some [], .move (.s [f, f, t, f]), none⟩]) : CCode)) false true
def c11_o2 : CCode := (fun (f t : Bool) => (.trim [[], [f]] (.ops [
  ⟨some [t, f, t, f], .move (.s [f]), none⟩,
  ⟨some [f, t, t, f], .move (.s []), none⟩,
  ⟨some [t, t, t, f], .call f (.c (.func 28 [])) [(.s [t, f, t, f]), (.s [f, t, t, f]), (.c (.int .i64 9))], none⟩,
  ⟨some [f, t], .move (.s [t, t, t, f]), none⟩]) : CCode)) false true
def c11_o3 : CCode := (fun (f t : Bool) => (.trim [[], [f, t]] (.ops [
  ⟨some [t, f, f, t], .move (.s [f, t]), none⟩,
  ⟨some [f, t, f, t], .call f (.c (.func 33 [])) [(.s [t, f, f, t])], none⟩,
  ⟨some [f, f, f, t], .move (.s [f, t, f, t]), none⟩,
  ⟨some [t, t, f, t], .extract 0 (.s [f, f, f, t]), none⟩,
  ⟨some [f, f, t, t], .extract 1 (.s [f, f, f, t]), none⟩,
  ⟨some [t, t], .move (.s [t, t, f, t]), none⟩,
  ⟨some [f, f, f], .move (.s [f, f, t, t]), none⟩]) : CCode)) false true
def c11_o4 : CCode := (fun (f t : Bool) => (.trim [[], [f, t], [t, t], [f, f, f]] (.ops [
  ⟨some [t, f, t, t], .move (.s [f, f, f]), none⟩,
  ⟨some [f, t, t, t], .bin .neq (.s [t, f, t, t]) (.c (.int .i64 0)), none⟩,
  ⟨some [t, t, t, t], .move (.s [f, t, t, t]), none⟩,
  ⟨some [f, f, f, f, f], .move (.s [t, t]), some ([t, t, t, t], f)⟩,
  ⟨some [t, f, f, f, f], .len 1 (.s [f, f, f, f, f]), some ([t, t, t, t], f)⟩,
  ⟨some [f, t, f, f, f], .move (.s []), some ([t, t, t, t], f)⟩,
  ⟨some [t, t, f, f, f], .bin .add (.s [f, t, f, f, f]) (.c (.int .i64 1)), some ([t, t, t, t], f)⟩,
  ⟨some [f, f, t, f, f], .bin .neq (.s [t, f, f, f, f]) (.s [t, t, f, f, f]), some ([t, t, t, t], f)⟩,
  ⟨some [t, f, t, f, f], .pick (.s [t, t, t, t]) (.c (.bool t)) (.s [f, f, t, f, f]), none⟩,
  ⟨some [f, t, t, f, f], .move (.s [t, f, t, f, f]), none⟩,
  ⟨some [t, t, t, f, f], .move (.s [t, t]), some ([f, t, t, f, f], f)⟩,
  ⟨some [f, f, f, t, f], .move (.s []), some ([f, t, t, f, f], f)⟩,
  ⟨some [t, f, f, t, f], .idxSl 1 (.s [t, t, t, f, f]) (.s [f, f, f, t, f]), some ([f, t, t, f, f], f)⟩,
  ⟨some [f, t, f, t, f], .load none (.s [t, f, f, t, f]), some ([f, t, t, f, f], f)⟩,
  ⟨some [t, t, f, t, f], .bin .neq (.s [f, t, f, t, f]) (.c (.int .i64 1)), some ([f, t, t, f, f], f)⟩,
  ⟨some [f, f, t, t, f], .pick (.s [f, t, t, f, f]) (.c (.bool t)) (.s [t, t, f, t, f]), none⟩]) : CCode)) false true
def c11_o5 : CCode := (fun (f t : Bool) => (.trim [] (.ops [
  ⟨some [t, f], .move (.c (.bool f)), none⟩]) : CCode)) false true
def c11_o6 : CCode := (fun (f t : Bool) => (.trim [[], [f, t], [t, t]] (.ops [
  ⟨some [t, f, f], .move (.c (.int .i64 0)), none⟩]) : CCode)) false true
def c11_o7 : CCode := (fun (f t : Bool) => (.trim [[], [f, t], [t, t], [t, f, f]] (.ops [
  ⟨some [f, t, f], .move (.c (.int .i64 0)), none⟩]) : CCode)) false true
def c11_o8 : CCode := (fun (f t : Bool) => (.trim [[], [f, t], [t, t], [t, f, f], [f, t, f]] (.ops [
  ⟨some [t, f, t, t, f], .move (.s [f, t, f]), none⟩,
  ⟨some [f, t, t, t, f], .move (.s []), none⟩,
  ⟨some [t, t, t, t, f], .bin .lss (.s [t, f, t, t, f]) (.s [f, t, t, t, f]), none⟩]) : CCode)) false true
def c11_o9 : CCode := (fun (f t : Bool) => (.trim [[], [f, t], [t, t], [t, f, f], [f, t, f]] (.ops [
  ⟨some [f, t, f, f, t], .move (.s [t, f, f]), none⟩,
  ⟨some [t, t, f, f, t], .move (.s [f, t]), none⟩,
  ⟨some [f, f, t, f, t], .move (.s [f, t, f]), none⟩,
  ⟨some [t, f, t, f, t], .idxSl 1 (.s [t, t, f, f, t]) (.s [f, f, t, f, t]), none⟩,
  ⟨some [f, t, t, f, t], .load none (.s [t, f, t, f, t]), none⟩,
  ⟨some [t, t, t, f, t], .move (.s [f, t, f]), none⟩,
  ⟨some [f, f, f, t, t], .idxSl 1 (.s [f, t, t, f, t]) (.s [t, t, t, f, t]), none⟩,
  ⟨some [t, f, f, t, t], .load none (.s [f, f, f, t, t]), none⟩,
  ⟨some [f, t, f, t, t], .bin .add (.s [f, t, f, f, t]) (.s [t, f, f, t, t]), none⟩,
  ⟨some [t, f, f], .move (.s [f, t, f, t, t]), none⟩]) : CCode)) false true
def c11_o10 : CCode := (fun (f t : Bool) => (.trim [[], [f, t], [t, t], [t, f, f], [f, t, f]] (.ops [
  ⟨some [f, f, f, f, t], .move (.s [f, t, f]), none⟩,
  ⟨some [t, f, f, f, t], .bin .add (.s [f, f, f, f, t]) (.c (.int .i64 1)), none⟩,
  ⟨some [f, t, f], .move (.s [t, f, f, f, t]), none⟩]) : CCode)) false true
def c11_b0 : CCode := (fun (f t : Bool) => ((.seq (.seq c11_o8
 (.cond (.s [t, t, t, t, f]) .skip (.exit 0)))
 (.seq (.block 1 c11_o9)
 c11_o10)) : CCode)) false true
def c11_l0 : CCode := (fun (f t : Bool) => (.loop [[], [f, t], [t, t], [t, f, f], [f, t, f]] c11_b0 : CCode)) false true
def c11_o11 : CCode := (fun (f t : Bool) => (.trim [[], [f, t], [t, t], [t, f, f]] (.ops [
  ⟨some [t, t, f, t, t], .move (.s [t, t]), none⟩,
  ⟨some [f, f, t, t, t], .move (.s []), none⟩,
  ⟨some [t, f, t, t, t], .bin .sub (.s [f, f, t, t, t]) (.c (.int .i64 1)), none⟩,
  ⟨some [f, t, t, t, t], .idxSl 1 (.s [t, t, f, t, t]) (.s [t, f, t, t, t]), none⟩,
  ⟨some [t, t, t, t, t], .load none (.s [f, t, t, t, t]), none⟩,
  ⟨some [f, f, f, f, f, f], .move (.s [t, f, f]), none⟩,
  ⟨some [t, f, f, f, f, f], .un .neg (.s [f, f, f, f, f, f]), none⟩,
  ⟨some [f, t, f, f, f, f], .bin .neq (.s [t, t, t, t, t]) (.s [t, f, f, f, f, f]), none⟩]) : CCode)) false true
def c11_o12 : CCode := (fun (f t : Bool) => (.trim [] (.ops [
  ⟨some [t, f], .move (.c (.bool f)), none⟩]) : CCode)) false true
def c11_o13 : CCode := (fun (f t : Bool) => (.trim [[], [f, t], [t, t]] (.ops [
  ⟨some [t, t, f, f, f, f], .move (.s []), none⟩,
  ⟨some [f, f, t, f, f, f], .move (.s []), none⟩,
  ⟨some [t, f, t, f, f, f], .bin .mul (.s [t, t, f, f, f, f]) (.s [f, f, t, f, f, f]), none⟩,
  ⟨some [f, t, t, f, f, f], .makeSlice none 1 8 [.int .i64 0] (.s [t, f, t, f, f, f]), none⟩,
  ⟨some [t, t, f], .move (.s [f, t, t, f, f, f]), none⟩]) : CCode)) false true
def c11_o14 : CCode := (fun (f t : Bool) => (.trim [[], [f, t], [t, t], [t, t, f]] (.ops [
  ⟨some [f, f, t], .move (.c (.int .i64 0)), none⟩]) : CCode)) false true
def c11_o15 : CCode := (fun (f t : Bool) => (.trim [[], [f, t], [t, t], [t, t, f], [f, f, t]] (.ops [
  ⟨some [t, t, t, f, f, f], .move (.s [f, f, t]), none⟩,
  ⟨some [f, f, f, t, f, f], .move (.s []), none⟩,
  ⟨some [t, f, f, t, f, f], .bin .leq (.s [t, t, t, f, f, f]) (.s [f, f, f, t, f, f]), none⟩]) : CCode)) false true
def c11_o16 : CCode := (fun (f t : Bool) => (.trim [[], [f, t], [t, t], [t, t, f], [f, f, t]] (.ops [
  ⟨some [t, f, t, t, f, f], .move (.s [f, t]), none⟩,
  ⟨some [f, t, t, t, f, f], .move (.s [f, f, t]), none⟩,
  ⟨some [t, t, t, t, f, f], .call f (.c (.func 43 [])) [(.s [t, f, t, t, f, f]), (.s [f, t, t, t, f, f])], none⟩,
  ⟨some [f, f, t, t, f, f], .move (.s [t, t, t, t, f, f]), none⟩,
  ⟨some [f, f, f, f, t, f], .extract 0 (.s [f, f, t, t, f, f]), none⟩,
  ⟨some [t, f, f, f, t, f], .extract 1 (.s [f, f, t, t, f, f]), none⟩,
  ⟨some [t, f, t], .move (.s [f, f, f, f, t, f]), none⟩,
  ⟨some [f, t, t], .move (.s [t, f, f, f, t, f]), none⟩]) : CCode)) false true
def c11_o17 : CCode := (fun (f t : Bool) => (.trim [[], [f, t], [t, t], [t, t, f], [f, f, t], [t, f, t], [f, t, t]] (.ops [
  ⟨some [f, t, f, f, t, f], .move (.s [f, t, t]), none⟩,
  ⟨some [t, t, f, f, t, f], .bin .neq (.s [f, t, f, f, t, f]) (.c (.int .i64 0)), none⟩,
  ⟨some [f, f, t, f, t, f], .move (.s [t, t, f, f, t, f]), none⟩,
  ⟨some [t, f, t, f, t, f], .move (.s [t, f, t]), some ([f, f, t, f, t, f], f)⟩,
  ⟨some [f, t, t, f, t, f], .len 1 (.s [t, f, t, f, t, f]), some ([f, f, t, f, t, f], f)⟩,
  ⟨some [t, t, t, f, t, f], .move (.s []), some ([f, f, t, f, t, f], f)⟩,
  ⟨some [f, f, f, t, t, f], .bin .neq (.s [f, t, t, f, t, f]) (.s [t, t, t, f, t, f]), some ([f, f, t, f, t, f], f)⟩,
  ⟨some [t, f, f, t, t, f], .pick (.s [f, f, t, f, t, f]) (.c (.bool t)) (.s [f, f, f, t, t, f]), none⟩]) : CCode)) false true
def c11_o18 : CCode := (fun (f t : Bool) => (.trim [] (.ops [
  ⟨some [t, f], .move (.c (.bool f)), none⟩]) : CCode)) false true
def c11_o19 : CCode := (fun (f t : Bool) => (.trim [[], [f, t], [t, t], [t, t, f], [f, f, t], [t, f, t]] (.ops [
  ⟨some [t, t, t], .move (.c (.int .i64 0)), none⟩]) : CCode)) false true
def c11_o20 : CCode := (fun (f t : Bool) => (.trim [[], [f, t], [t, t], [t, t, f], [f, f, t], [t, f, t], [t, t, t]] (.ops [
  ⟨some [f, t, f, t, t, f], .move (.s [t, t, t]), none⟩,
  ⟨some [t, t, f, t, t, f], .move (.s []), none⟩,
  ⟨some [f, f, t, t, t, f], .bin .lss (.s [f, t, f, t, t, f]) (.s [t, t, f, t, t, f]), none⟩]) : CCode)) false true
def c11_o21 : CCode := (fun (f t : Bool) => (.trim [[], [f, t], [t, t], [t, t, f], [f, f, t], [t, f, t], [t, t, t]] (.ops [
  ⟨some [t, t, t, t, t, f], .move (.s [t, f, t]), none⟩,
  ⟨some [f, f, f, f, f, t], .move (.s [t, t, t]), none⟩,
  ⟨some [t, f, f, f, f, t], .idxSl 1 (.s [t, t, t, t, t, f]) (.s [f, f, f, f, f, t]), none⟩,
  ⟨some [f, t, f, f, f, t], .load none (.s [t, f, f, f, f, t]), none⟩,
  ⟨some [t, t, f, f, f, t], .len 1 (.s [f, t, f, f, f, t]), none⟩,
  ⟨some [f, f, t, f, f, t], .move (.s []), none⟩,
  ⟨some [t, f, t, f, f, t], .bin .neq (.s [t, t, f, f, f, t]) (.s [f, f, t, f, f, t]), none⟩]) : CCode)) false true
def c11_o22 : CCode := (fun (f t : Bool) => (.trim [] (.ops [
  ⟨some [t, f], .move (.c (.bool f)), none⟩]) : CCode)) false true
def c11_o23 : CCode := (fun (f t : Bool) => (.trim [[], [f, t], [t, t], [t, t, f], [f, f, t], [t, f, t], [t, t, t]] (.ops [
  ⟨some [f, f, f, f], .move (.c (.int .i64 0)), none⟩]) : CCode)) false true
def c11_o24 : CCode := (fun (f t : Bool) => (.trim [[], [f, t], [t, t], [t, t, f], [f, f, t], [t, f, t], [t, t, t], [f, f, f, f]] (.ops [
  ⟨some [f, t, t, f, f, t], .move (.s [f, f, f, f]), none⟩,
  ⟨some [t, t, t, f, f, t], .move (.s []), none⟩,
  ⟨some [f, f, f, t, f, t], .bin .lss (.s [f, t, t, f, f, t]) (.s [t, t, t, f, f, t]), none⟩]) : CCode)) false true
def c11_o25 : CCode := (fun (f t : Bool) => (.trim [[], [f, t], [t, t], [t, t, f], [f, f, t], [t, f, t], [t, t, t], [f, f, f, f]] (.draw 0 [
  ⟨some [t, t, f, t, f, t], .move (.s [t, t, f]), none⟩,
  ⟨some [f, f, t, t, f, t], .move (.s [t, t, t]), none⟩,
  ⟨some [t, f, t, t, f, t], .move (.s []), none⟩,
  ⟨some [f, t, t, t, f, t], .bin .mul (.s [f, f, t, t, f, t]) (.s [t, f, t, t, f, t]), none⟩,
  ⟨some [t, t, t, t, f, t], .move (.s [f, f, f, f]), none⟩,
  ⟨some [f, f, f, f, t, t], .bin .add (.s [f, t, t, t, f, t]) (.s [t, t, t, t, f, t]), none⟩,
  ⟨some [t, f, f, f, t, t], .move (.s [t, t, f]), none⟩,
  ⟨some [f, t, f, f, t, t], .move (.s [t, t, t]), none⟩,
  ⟨some [t, t, f, f, t, t], .move (.s []), none⟩,
  ⟨some [f, f, t, f, t, t], .bin .mul (.s [f, t, f, f, t, t]) (.s [t, t, f, f, t, t]), none⟩,
  ⟨some [t, f, t, f, t, t], .move (.s [f, f, f, f]), none⟩,
  ⟨some [f, t, t, f, t, t], .bin .add (.s [f, f, t, f, t, t]) (.s [t, f, t, f, t, t]), none⟩,
  ⟨some [t, t, t, f, t, t], .idxSl 1 (.s [t, f, f, f, t, t]) (.s [f, t, t, f, t, t]), none⟩,
  ⟨some [f, f, f, t, t, t], .load none (.s [t, t, t, f, t, t]), none⟩,
  ⟨some [t, f, f, t, t, t], .move (.s [t, t]), none⟩,
  ⟨some [f, t, f, t, t, t], .move (.s [f, f, t]), none⟩,
  ⟨some [t, t, f, t, t, t], .idxSl 1 (.s [t, f, f, t, t, t]) (.s [f, t, f, t, t, t]), none⟩,
  ⟨some [f, f, t, t, t, t], .load none (.s [t, t, f, t, t, t]), none⟩,
  ⟨some [t, f, t, t, t, t], .move (.s [t, f, t]), none⟩,
  ⟨some [f, t, t, t, t, t], .move (.s [t, t, t]), none⟩,
  ⟨some [t, t, t, t, t, t], .idxSl 1 (.s [t, f, t, t, t, t]) (.s [f, t, t, t, t, t]), none⟩,
  ⟨some [f, f, f, f, f, f, f], .load none (.s [t, t, t, t, t, t]), none⟩,
  ⟨some [t, f, f, f, f, f, f], .move (.s [f, f, f, f]), none⟩,
  ⟨some [f, t, f, f, f, f, f], .idxSl 1 (.s [f, f, f, f, f, f, f]) (.s [t, f, f, f, f, f, f]), none⟩,
  ⟨some [t, t, f, f, f, f, f], .load none (.s [f, t, f, f, f, f, f]), none⟩,
  ⟨some [f, f, t, f, f, f, f], .bin .mul (.s [f, f, t, t, t, t]) (.s [t, t, f, f, f, f, f]), none⟩,
  ⟨some [t, f, t, f, f, f, f], .bin .add (.s [f, f, f, t, t, t]) (.s [f, f, t, f, f, f, f]), none⟩,
  ⟨some [f, t, t, f, f, f, f], .idxSl 1 (.s [t, t, f, t, f, t]) (.s [f, f, f, f, t, t]), none⟩,
  ⟨none, .store 1 (.s [f, t, t, f, f, f, f]) (.s [t, f, t, f, f, f, f]), none⟩]
  [(13, 17), (13, 21), (17, 21), (13, 24), (17, 24)] [[], [], [], [1, 2], [], [1, 2, 3, 4], [], [], [], [7, 8], [], [7, 8, 9, 10], [6, 7, 8, 9, 10, 11], [6, 7, 8, 9, 10, 11, 12], [], [], [14, 15], [14, 15, 16], [], [], [18, 19], [18, 19, 20], [], [18, 19, 20, 21, 22], [18, 19, 20, 21, 22, 23], [14, 15, 16, 17, 18, 19, 20, 21, 22, 23, 24], [6, 7, 8, 9, 10, 11, 12, 13, 14, 15, 16, 17, 18, 19, 20, 21, 22, 23, 24, 25], (r 27), (r 28)]) : CCode)) false true
def c11_o26 : CCode := (fun (f t : Bool) => (.trim [[], [f, t], [t, t], [t, t, f], [f, f, t], [t, f, t], [t, t, t], [f, f, f, f]] (.ops [
  ⟨some [t, f, f, t, f, t], .move (.s [f, f, f, f]), none⟩,
  ⟨some [f, t, f, t, f, t], .bin .add (.s [t, f, f, t, f, t]) (.c (.int .i64 1)), none⟩,
  ⟨some [f, f, f, f], .move (.s [f, t, f, t, f, t]), none⟩]) : CCode)) false true
def c11_b1 : CCode := (fun (f t : Bool) => ((.seq (.seq c11_o24
 (.cond (.s [f, f, f, t, f, t]) .skip (.exit 6)))
 (.seq (.block 7 c11_o25)
 c11_o26)) : CCode)) false true
def c11_l1 : CCode := (fun (f t : Bool) => (.loop [[], [f, t], [t, t], [t, t, f], [f, f, t], [t, f, t], [t, t, t], [f, f, f, f]] c11_b1 : CCode)) false true
def c11_o27 : CCode := (fun (f t : Bool) => (.trim [[], [f, t], [t, t], [t, t, f], [f, f, t], [t, f, t], [t, t, t]] (.ops [
  ⟨some [t, f, t, t, t, f], .move (.s [t, t, t]), none⟩,
  ⟨some [f, t, t, t, t, f], .bin .add (.s [t, f, t, t, t, f]) (.c (.int .i64 1)), none⟩,
  ⟨some [t, t, t], .move (.s [f, t, t, t, t, f]), none⟩]) : CCode)) false true
def c11_b2 : CCode := (fun (f t : Bool) => ((.seq (.seq c11_o20
 (.cond (.s [f, f, t, t, t, f]) .skip (.exit 4)))
 (.seq (.block 5 (.seq (.seq c11_o21
 (.cond (.s [t, f, t, f, f, t]) (.seq c11_o22
 .ret) .skip))
 (.seq c11_o23
 (.block 6 c11_l1))))
 c11_o27)) : CCode)) false true
def c11_l2 : CCode := (fun (f t : Bool) => (.loop [[], [f, t], [t, t], [t, t, f], [f, f, t], [t, f, t], [t, t, t]] c11_b2 : CCode)) false true
def c11_o28 : CCode := (fun (f t : Bool) => (.trim [[], [f, t], [t, t], [t, t, f], [f, f, t]] (.ops [
  ⟨some [f, t, f, t, f, f], .move (.s [f, f, t]), none⟩,
  ⟨some [t, t, f, t, f, f], .bin .add (.s [f, t, f, t, f, f]) (.c (.int .i64 1)), none⟩,
  ⟨some [f, f, t], .move (.s [t, t, f, t, f, f]), none⟩]) : CCode)) false true
def c11_b3 : CCode := (fun (f t : Bool) => ((.seq (.seq c11_o15
 (.cond (.s [t, f, f, t, f, f]) .skip (.exit 2)))
 (.seq (.block 3 (.seq c11_o16
 (.seq (.seq c11_o17
 (.cond (.s [t, f, f, t, t, f]) (.seq c11_o18
 .ret) .skip))
 (.seq c11_o19
 (.block 4 c11_l2)))))
 c11_o28)) : CCode)) false true
def c11_l3 : CCode := (fun (f t : Bool) => (.loop [[], [f, t], [t, t], [t, t, f], [f, f, t]] c11_b3 : CCode)) false true
def c11_o29 : CCode := (fun (f t : Bool) => (.trim [[], [t, t, f]] (.ops [
  ⟨some [t, f, f, f], .move (.c (.int .i64 0)), none⟩]) : CCode)) false true
def c11_o30 : CCode := (fun (f t : Bool) => (.trim [[], [t, t, f], [t, f, f, f]] (.ops [
  ⟨some [t, t, t, f, f, f, f], .move (.s [t, f, f, f]), none⟩,
  ⟨some [f, f, f, t, f, f, f], .move (.s []), none⟩,
  ⟨some [t, f, f, t, f, f, f], .move (.s []), none⟩,
  ⟨some [f, t, f, t, f, f, f], .bin .mul (.s [f, f, f, t, f, f, f]) (.s [t, f, f, t, f, f, f]), none⟩,
  ⟨some [t, t, f, t, f, f, f], .bin .lss (.s [t, t, t, f, f, f, f]) (.s [f, t, f, t, f, f, f]), none⟩]) : CCode)) false true
def c11_o31 : CCode := (fun (f t : Bool) => (.trim [[], [t, t, f], [t, f, f, f]] (.ops [
  ⟨some [f, t, t, t, f, f, f], .move (.s [t, t, f]), none⟩,
  ⟨some [t, t, t, t, f, f, f], .move (.s [t, f, f, f]), none⟩,
  ⟨some [f, f, f, f, t, f, f], .idxSl 1 (.s [f, t, t, t, f, f, f]) (.s [t, t, t, t, f, f, f]), none⟩,
  ⟨some [t, f, f, f, t, f, f], .load none (.s [f, f, f, f, t, f, f]), none⟩,
  ⟨some [f, t, f, f, t, f, f], .bin .neq (.s [t, f, f, f, t, f, f]) (.c (.int .i64 0)), none⟩]) : CCode)) false true
def c11_o32 : CCode := (fun (f t : Bool) => (.trim [] (.ops [
  ⟨some [t, f], .move (.c (.bool f)), none⟩]) : CCode)) false true
def c11_o33 : CCode := (fun (f t : Bool) => (.trim [[], [t, t, f], [t, f, f, f]] (.ops [
  ⟨some [f, f, t, t, f, f, f], .move (.s [t, f, f, f]), none⟩,
  ⟨some [t, f, t, t, f, f, f], .bin .add (.s [f, f, t, t, f, f, f]) (.c (.int .i64 1)), none⟩,
  ⟨some [t, f, f, f], .move (.s [t, f, t, t, f, f, f]), none⟩]) : CCode)) false true
def c11_b4 : CCode := (fun (f t : Bool) => ((.seq (.seq c11_o30
 (.cond (.s [t, t, f, t, f, f, f]) .skip (.exit 8)))
 (.seq (.block 9 (.seq c11_o31
 (.cond (.s [f, t, f, f, t, f, f]) (.seq c11_o32
 .ret) .skip)))
 c11_o33)) : CCode)) false true
def c11_l4 : CCode := (fun (f t : Bool) => (.loop [[], [t, t, f], [t, f, f, f]] c11_b4 : CCode)) false true
def c11_o34 : CCode := (fun (f t : Bool) => (.trim [] (.ops [
  ⟨some [t, t, f, f, t, f, f], .call f (.c (.func 23 [])) [], none⟩,
  ⟨some [t, f], .move (.s [t, t, f, f, t, f, f]), none⟩]) : CCode)) false true
def c11 : CFunc := (fun (f t : Bool) => ({ params := [[], [f]], results := [.slot [t, f]], shared := f, body := (.seq c11_o0
 (.seq c11_o1
 (.seq c11_o2
 (.seq c11_o3
 (.seq (.seq c11_o4
 (.cond (.s [f, f, t, t, f]) (.seq c11_o5
 .ret) .skip))
 (.seq c11_o6
 (.seq (.seq c11_o7
 (.block 0 c11_l0))
 (.seq (.seq c11_o11
 (.cond (.s [f, t, f, f, f, f]) (.seq c11_o12
 .ret) .skip))
 (.seq c11_o13
 (.seq (.seq c11_o14
 (.block 2 c11_l3))
 (.seq (.seq c11_o29
 (.block 8 c11_l4))
 (.seq c11_o34
 .ret)))))))))))) } : CFunc)) false true
def c18_o0 : CCode := (fun (f t : Bool) => (.trim [[]] (.ops [
  ⟨some [t], .move (.c (.nils)), none⟩]) : CCode)) false true
def c18_o1 : CCode := (fun (f t : Bool) => (.trim [[]] (.ops [
  ⟨some [f, f], .move (.c (.nils)), none⟩]) : CCode)) false true
def c18_o2 : CCode := (fun (f t : Bool) => (.trim [[], [f, f]] (.ops [
  ⟨some [t, f], .move (.s [f, f]), none⟩,
  ⟨some [f, t], .move (.s []), none⟩,
  ⟨some [t, t], .move (.s []), none⟩,
  ⟨some [f, f, f], .len 1 (.s [t, t]), none⟩,
  ⟨some [t, f, f], .minmax f (.s [f, f, f]) (.c (.int .i64 10)), none⟩,
  ⟨some [f, t, f], .slSl 1 (.s [f, t]) none (some (.s [t, f, f])), none⟩,
  ⟨some [t, t, f], .append none 1 8 (.s [t, f]) (.s [f, t, f]), none⟩,
  ⟨some [t], .move (.s [t, t, f]), none⟩]) : CCode)) false true
def c18 : CFunc := (fun (f t : Bool) => ({ params := [[]], results := [.slot [t]], shared := f, body := (.seq c18_o0
 (.seq c18_o1
 (.seq c18_o2
 .ret))) } : CFunc)) false true
def c20_o0 : CCode := (fun (f t : Bool) => (.trim [[], [f]] (.ops [
  ⟨some [t, f], .alloc none [.int .i64 0, .int .i64 0], none⟩,
  ⟨some [f, t], .alloc none [.int .i64 0, .int .i64 0], none⟩,
  ⟨some [t, t], .move (.c (.int .i64 0)), none⟩]) : CCode)) false true
def c20_o1 : CCode := (fun (f t : Bool) => (.trim [[], [f], [t, f], [f, t]] (.ops [
  ⟨some [t, f, f, f], .move (.s []), none⟩,
  ⟨some [f, t, f, f], .call f (.c (.func 54 [])) [(.s [t, f, f, f])], none⟩,
  ⟨some [f, f, f, f], .move (.s [f, t, f, f]), none⟩,
  ⟨some [t, t, f, f], .extract 0 (.s [f, f, f, f]), none⟩,
  ⟨some [f, f, t, f], .extract 1 (.s [f, f, f, f]), none⟩,
  ⟨some [f, f, f], .alloc none (List.replicate 65 (.int .i64 0)), none⟩,
  ⟨none, .store 65 (.s [f, f, f]) (.s [t, t, f, f]), none⟩,
  ⟨some [t, f, f], .move (.s [f, f, t, f]), none⟩]) : CCode)) false true
def c20_o2 : CCode := (fun (f t : Bool) => (.trim [[f], [t, f], [f, t], [f, f, f], [t, f, f]] (.ops [
  ⟨some [t, f, t, f], .move (.s [t, f, f]), none⟩,
  ⟨some [f, t, t, f], .un .not (.s [t, f, t, f]), none⟩,
  ⟨some [t, t, t, f], .move (.s [f, t, t, f]), none⟩,
  ⟨some [f, f, f, t], .move (.s [f]), some ([t, t, t, f], f)⟩,
  ⟨some [t, f, f, t], .len 1 (.s [f, f, f, t]), some ([t, t, t, f], f)⟩,
  ⟨some [f, t, f, t], .fieldAddr 0 (.s [f, f, f]), some ([t, t, t, f], f)⟩,
  ⟨some [t, t, f, t], .load none (.s [f, t, f, t]), some ([t, t, t, f], f)⟩,
  ⟨some [f, f, t, t], .bin .neq (.s [t, f, f, t]) (.s [t, t, f, t]), some ([t, t, t, f], f)⟩,
  ⟨some [t, f, t, t], .pick (.s [t, t, t, f]) (.c (.bool t)) (.s [f, f, t, t]), none⟩,
  ⟨some [f, t, t, t], .move (.s [t, f, t, t]), none⟩,
  ⟨some [t, t, t, t], .move (.s [f]), some ([f, t, t, t], f)⟩,
  ⟨some [f, f, f, f, f], .call f (.c (.func 55 [])) [(.s [t, t, t, t]), (.c (.func 59 []))], some ([f, t, t, t], f)⟩,
  ⟨some [t, f, f, f, f], .pick (.s [f, t, t, t]) (.c (.bool t)) (.s [f, f, f, f, f]), none⟩]) : CCode)) false true
def c20_o3 : CCode := (fun (f t : Bool) => (.trim [[t, f], [f, t]] (.ops [
  ⟨some [f, t, f, f, f], .build [.int .i64 0, .int .i64 0] [], none⟩,
  ⟨some [t, t, f, f, f], .build [.int .i64 0, .int .i64 0] [], none⟩,
  ⟨none, .store 2 (.s [t, f]) (.s [f, t, f, f, f]), none⟩,
  ⟨none, .store 2 (.s [f, t]) (.s [t, t, f, f, f]), none⟩,
  ⟨some [t, t], .move (.c (.int .i64 2)), none⟩]) : CCode)) false true
def c20_o4 : CCode := (fun (f t : Bool) => (.trim [[f], [t, f], [f, t], [f, f, f]] (.ops [
  ⟨some [f, t, f], .alloc none [.int .i64 0, .int .i64 0], none⟩,
  ⟨some [t, t, f], .alloc none [.int .i64 0, .int .i64 0], none⟩]) : CCode)) false true
def c20_o5 : CCode := (fun (f t : Bool) => (.trim [[f], [t, f], [f, t], [f, f, f], [f, t, f], [t, t, f]] (.ops [
  ⟨some [f, f, t, f, f], .load (some 65) (.s [f, f, f]), none⟩,
  ⟨some [t, f, t, f, f], .move (.s [f]), none⟩,
  ⟨some [f, t, t, f, f], .call f (.c (.func 58 [])) [(.s [f, f, t, f, f]), (.s [t, f, t, f, f])], none⟩,
  ⟨some [t, t, t, f, f], .len 1 (.s [f, t, t, f, f]), none⟩,
  ⟨some [f, f, f, t, f], .move (.c (.int .i64 0)), none⟩]) : CCode)) false true
def c20_o6 : CCode := (fun (f t : Bool) => (.trim [[f], [t, f], [f, t], [f, t, f], [t, t, f], [f, t, t, f, f], [t, t, t, f, f], [f, f, f, t, f]] (.ops [
  ⟨some [t, f, f, t, f], .bin .lss (.s [f, f, f, t, f]) (.s [t, t, t, f, f]), none⟩]) : CCode)) false true
def c20_o7 : CCode := (fun (f t : Bool) => (.trim [[f], [t, f], [f, t], [f, t, f], [t, t, f], [f, t, t, f, f], [t, t, t, f, f], [f, f, f, t, f]] (.ops [
  ⟨some [f, t, f, t, f], .move (.s [f, f, f, t, f]), none⟩,
  ⟨some [t, t, f, t, f], .idxSl 1 (.s [f, t, t, f, f]) (.s [f, f, f, t, f]), none⟩,
  ⟨some [f, f, t, t, f], .load none (.s [t, t, f, t, f]), none⟩,
  ⟨some [f, f, t], .move (.s [f, t, f, t, f]), none⟩,
  ⟨some [t, f, t], .move (.s [f, f, t, t, f]), none⟩]) : CCode)) false true
def c20_o8 : CCode := (fun (f t : Bool) => (.trim [[f], [t, f], [f, t], [f, t, f], [t, t, f], [f, f, t], [t, f, t], [f, t, t, f, f], [t, t, t, f, f], [f, f, f, t, f]] (.ops [
  ⟨some [t, f, t, t, f], .move (.s [t, f, t]), none⟩,
  ⟨some [f, t, t, t, f], .move (.s [f]), none⟩,
  ⟨some [t, t, t, t, f], .move (.s [f, f, t]), none⟩,
  ⟨some [f, f, f, f, t], .idxSl 1 (.s [f, t, t, t, f]) (.s [t, t, t, t, f]), none⟩,
  ⟨some [t, f, f, f, t], .load none (.s [f, f, f, f, t]), none⟩,
  ⟨some [f, t, f, f, t], .call f (.c (.func 60 [])) [(.s [t, f, t, t, f]), (.s [t, f, f, f, t])], none⟩,
  ⟨some [f, t, t], .move (.s [f, t, f, f, t]), none⟩]) : CCode)) false true
def c20_o9 : CCode := (fun (f t : Bool) => (.trim [[f], [t, f], [f, t], [f, t, f], [t, t, f], [f, f, t], [t, f, t], [f, t, t], [f, t, t, f, f], [t, t, t, f, f], [f, f, f, t, f]] (.draw 1 [
  ⟨some [t, t, f, f, t], .move (.s [t, f, t]), none⟩,
  ⟨some [f, f, t, f, t], .move (.s [f, t, t]), none⟩,
  ⟨some [t, f, t, f, t], .bin .quo (.s [t, t, f, f, t]) (.s [f, f, t, f, t]), none⟩,
  ⟨some [f, t, t, f, t], .move (.s [f]), none⟩,
  ⟨some [t, t, t, f, t], .move (.s [f, f, t]), none⟩,
  ⟨some [f, f, f, t, t], .idxSl 1 (.s [f, t, t, f, t]) (.s [t, t, t, f, t]), none⟩,
  ⟨some [t, f, f, t, t], .load none (.s [f, f, f, t, t]), none⟩,
  ⟨some [f, t, f, t, t], .move (.s [f, t, t]), none⟩,
  ⟨some [t, t, f, t, t], .bin .quo (.s [t, f, f, t, t]) (.s [f, t, f, t, t]), none⟩,
  ⟨some [f, f, t, t, t], .build [.int .i64 0, .int .i64 0] [(0, 1, (.s [t, f, t, f, t])), (1, 1, (.s [t, t, f, t, t]))], none⟩,
  ⟨some [t, t, t], .alloc (some 0) [.int .i64 0, .int .i64 0], none⟩,
  ⟨none, .store 2 (.s [t, t, t]) (.s [f, f, t, t, t]), none⟩]
  [(6, 10)] [[], [], [0, 1], [], [], [3, 4], [3, 4, 5], [], [3, 4, 5, 6, 7], (r 9), [], (r 11)]) : CCode)) false true
def c20_o10 : CCode := (fun (f t : Bool) => (.trim [[f], [t, f], [f, t], [f, t, f], [t, t, f], [f, f, t], [t, t, t], [f, t, t, f, f], [t, t, t, f, f], [f, f, f, t, f]] (.ops [
  ⟨some [t, f, t, t, t], .move (.s [f, f, t]), none⟩,
  ⟨some [f, t, t, t, t], .bin .eql (.s [t, f, t, t, t]) (.c (.int .i64 0)), none⟩,
  ⟨some [t, t, t, t, t], .move (.s [f, t, t, t, t]), none⟩,
  ⟨some [f, f, f, f, f, f], .fieldAddr 0 (.s [t, t, t]), some ([t, t, t, t, t], f)⟩,
  ⟨some [t, f, f, f, f, f], .load none (.s [f, f, f, f, f, f]), some ([t, t, t, t, t], f)⟩,
  ⟨some [f, t, f, f, f, f], .fieldAddr 1 (.s [f, t, f]), some ([t, t, t, t, t], f)⟩,
  ⟨some [t, t, f, f, f, f], .load none (.s [f, t, f, f, f, f]), some ([t, t, t, t, t], f)⟩,
  ⟨some [f, f, t, f, f, f], .bin .mul (.s [t, f, f, f, f, f]) (.s [t, t, f, f, f, f]), some ([t, t, t, t, t], f)⟩,
  ⟨some [t, f, t, f, f, f], .fieldAddr 0 (.s [f, t, f]), some ([t, t, t, t, t], f)⟩,
  ⟨some [f, t, t, f, f, f], .load none (.s [t, f, t, f, f, f]), some ([t, t, t, t, t], f)⟩,
  ⟨some [t, t, t, f, f, f], .fieldAddr 1 (.s [t, t, t]), some ([t, t, t, t, t], f)⟩,
  ⟨some [f, f, f, t, f, f], .load none (.s [t, t, t, f, f, f]), some ([t, t, t, t, t], f)⟩,
  ⟨some [t, f, f, t, f, f], .bin .mul (.s [f, t, t, f, f, f]) (.s [f, f, f, t, f, f]), some ([t, t, t, t, t], f)⟩,
  ⟨some [f, t, f, t, f, f], .bin .lss (.s [f, f, t, f, f, f]) (.s [t, f, f, t, f, f]), some ([t, t, t, t, t], f)⟩,
  ⟨some [t, t, f, t, f, f], .pick (.s [t, t, t, t, t]) (.c (.bool t)) (.s [f, t, f, t, f, f]), none⟩]) : CCode)) false true
def c20_o11 : CCode := (fun (f t : Bool) => (.trim [[f], [t, f], [f, t], [f, t, f], [t, t, f], [f, f, t], [t, t, t], [f, t, t, f, f], [t, t, t, f, f], [f, f, f, t, f]] (.ops [
  ⟨some [f, f, t, t, f, f], .load (some 2) (.s [t, t, t]), none⟩,
  ⟨none, .store 2 (.s [f, t, f]) (.s [f, f, t, t, f, f]), none⟩]) : CCode)) false true
def c20_o12 : CCode := (fun (f t : Bool) => (.trim [[f], [t, f], [f, t], [f, t, f], [t, t, f], [f, f, t], [t, t, t], [f, t, t, f, f], [t, t, t, f, f], [f, f, f, t, f]] (.ops [
  ⟨some [t, f, t, t, f, f], .move (.s [f, f, t]), none⟩,
  ⟨some [f, t, t, t, f, f], .bin .eql (.s [t, f, t, t, f, f]) (.c (.int .i64 0)), none⟩,
  ⟨some [t, t, t, t, f, f], .move (.s [f, t, t, t, f, f]), none⟩,
  ⟨some [f, f, f, f, t, f], .fieldAddr 0 (.s [t, t, t]), some ([t, t, t, t, f, f], f)⟩,
  ⟨some [t, f, f, f, t, f], .load none (.s [f, f, f, f, t, f]), some ([t, t, t, t, f, f], f)⟩,
  ⟨some [f, t, f, f, t, f], .fieldAddr 1 (.s [t, t, f]), some ([t, t, t, t, f, f], f)⟩,
  ⟨some [t, t, f, f, t, f], .load none (.s [f, t, f, f, t, f]), some ([t, t, t, t, f, f], f)⟩,
  ⟨some [f, f, t, f, t, f], .bin .mul (.s [t, f, f, f, t, f]) (.s [t, t, f, f, t, f]), some ([t, t, t, t, f, f], f)⟩,
  ⟨some [t, f, t, f, t, f], .fieldAddr 0 (.s [t, t, f]), some ([t, t, t, t, f, f], f)⟩,
  ⟨some [f, t, t, f, t, f], .load none (.s [t, f, t, f, t, f]), some ([t, t, t, t, f, f], f)⟩,
  ⟨some [t, t, t, f, t, f], .fieldAddr 1 (.s [t, t, t]), some ([t, t, t, t, f, f], f)⟩,
  ⟨some [f, f, f, t, t, f], .load none (.s [t, t, t, f, t, f]), some ([t, t, t, t, f, f], f)⟩,
  ⟨some [t, f, f, t, t, f], .bin .mul (.s [f, t, t, f, t, f]) (.s [f, f, f, t, t, f]), some ([t, t, t, t, f, f], f)⟩,
  ⟨some [f, t, f, t, t, f], .bin .gtr (.s [f, f, t, f, t, f]) (.s [t, f, f, t, t, f]), some ([t, t, t, t, f, f], f)⟩,
  ⟨some [t, t, f, t, t, f], .pick (.s [t, t, t, t, f, f]) (.c (.bool t)) (.s [f, t, f, t, t, f]), none⟩]) : CCode)) false true
def c20_o13 : CCode := (fun (f t : Bool) => (.trim [[f], [t, f], [f, t], [f, t, f], [t, t, f], [t, t, t], [f, t, t, f, f], [t, t, t, f, f], [f, f, f, t, f]] (.ops [
  ⟨some [f, f, t, t, t, f], .load (some 2) (.s [t, t, t]), none⟩,
  ⟨none, .store 2 (.s [t, t, f]) (.s [f, f, t, t, t, f]), none⟩]) : CCode)) false true
def c20_o14 : CCode := (fun (f t : Bool) => (.trim [[f], [t, f], [f, t], [f, t, f], [t, t, f], [f, t, t, f, f], [t, t, t, f, f], [f, f, f, t, f]] (.ops [
  ⟨some [t, f, t, t, t, f], .bin .add (.s [f, f, f, t, f]) (.c (.int .i64 1)), none⟩,
  ⟨some [f, f, f, t, f], .move (.s [t, f, t, t, t, f]), none⟩]) : CCode)) false true
def c20_b0 : CCode := (fun (f t : Bool) => ((.seq c20_o6
 (.seq (.cond (.s [t, f, f, t, f]) .skip (.exit 0))
 (.seq (.block 1 (.seq c20_o7
 (.seq c20_o8
 (.seq c20_o9
 (.seq (.seq c20_o10
 (.cond (.s [t, t, f, t, f, f]) c20_o11 .skip))
 (.seq c20_o12
 (.cond (.s [t, t, f, t, t, f]) c20_o13 .skip)))))))
 c20_o14))) : CCode)) false true
def c20_l0 : CCode := (fun (f t : Bool) => (.loop [[f], [t, f], [f, t], [f, t, f], [t, t, f], [f, t, t, f, f], [t, t, t, f, f], [f, f, f, t, f]] c20_b0 : CCode)) false true
def c20_o15 : CCode := (fun (f t : Bool) => (.trim [[t, f], [f, t], [f, t, f], [t, t, f]] (.draw 0 [
  ⟨some [f, t, t, t, t, f], .load (some 2) (.s [f, t, f]), none⟩,
  ⟨some [t, t, t, t, t, f], .load (some 2) (.s [t, t, f]), none⟩,
  ⟨none, .store 2 (.s [t, f]) (.s [f, t, t, t, t, f]), none⟩,
  ⟨none, .store 2 (.s [f, t]) (.s [t, t, t, t, t, f]), none⟩,
  ⟨some [t, t], .move (.c (.int .i64 0)), none⟩]
  [(0, 1), (1, 2)] [[], [], [0], [0, 1, 2], [0, 1, 2, 3]]) : CCode)) false true
def c20 : CFunc := (fun (f t : Bool) => ({ params := [[], [f]], results := [.cell [t, f] (some 2), .cell [f, t] (some 2), .slot [t, t]], shared := f, body := (.seq c20_o0
 (.seq c20_o1
 (.seq (.seq c20_o2
 (.cond (.s [t, f, f, f, f]) (.seq c20_o3
 .ret) .skip))
 (.seq c20_o4
 (.seq (.seq c20_o5
 (.block 0 c20_l0))
 (.seq c20_o15
 .ret)))))) } : CFunc)) false true
def c22_o0 : CCode := (fun (f t : Bool) => (.trim [[], [f], [t]] (.ops [
  ⟨some [t, t], .move (.c (.bool f)), none⟩]) : CCode)) false true
def c22_o1 : CCode := (fun (f t : Bool) => (.trim [[], [f], [t]] (.ops [
  ⟨some [f, f, f], .move (.c (.int .i64 0)), none⟩]) : CCode)) false true
def c22_o2 : CCode := (fun (f t : Bool) => (.trim [[], [f], [t], [f, f, f]] (.ops [
  ⟨some [t, f, f], .move (.s [f, f, f]), none⟩,
  ⟨some [f, t, f], .move (.s []), none⟩,
  ⟨some [t, t, f], .len 1 (.s [f, t, f]), none⟩,
  ⟨some [f, f, t], .bin .lss (.s [t, f, f]) (.s [t, t, f]), none⟩]) : CCode)) false true
def c22_o3 : CCode := (fun (f t : Bool) => (.trim [[], [f], [t], [f, f, f]] (.ops [
  ⟨some [t, t, t], .move (.s []), none⟩,
  ⟨some [f, f, f, f], .move (.s [f, f, f]), none⟩,
  ⟨some [t, f, f, f], .idxSl 1 (.s [t, t, t]) (.s [f, f, f, f]), none⟩,
  ⟨some [f, t, f, f], .load none (.s [t, f, f, f]), none⟩,
  ⟨some [t, t, f, f], .move (.s [t]), none⟩,
  ⟨some [f, f, t, f], .bin .lss (.s [f, t, f, f]) (.s [t, t, f, f]), none⟩,
  ⟨some [t, f, t, f], .move (.s [f, f, t, f]), none⟩,
  ⟨some [f, t, t, f], .move (.s []), some ([t, f, t, f], f)⟩,
  ⟨some [t, t, t, f], .move (.s [f, f, f]), some ([t, f, t, f], f)⟩,
  ⟨some [f, f, f, t], .idxSl 1 (.s [f, t, t, f]) (.s [t, t, t, f]), some ([t, f, t, f], f)⟩,
  ⟨some [t, f, f, t], .load none (.s [f, f, f, t]), some ([t, f, t, f], f)⟩,
  ⟨some [f, t, f, t], .bin .gtr (.s [t, f, f, t]) (.c (.int .i64 100000000)), some ([t, f, t, f], f)⟩,
  ⟨some [t, t, f, t], .pick (.s [t, f, t, f]) (.c (.bool t)) (.s [f, t, f, t]), none⟩]) : CCode)) false true
def c22_o4 : CCode := (fun (f t : Bool) => (.trim [] (.ops [
  ⟨some [t, t], .move (.c (.bool f)), none⟩]) : CCode)) false true
def c22_o5 : CCode := (fun (f t : Bool) => (.trim [[], [f], [t], [f, f, f]] (.ops [
  ⟨some [t, f, t], .move (.s [f, f, f]), none⟩,
  ⟨some [f, t, t], .bin .add (.s [t, f, t]) (.c (.int .i64 1)), none⟩,
  ⟨some [f, f, f], .move (.s [f, t, t]), none⟩]) : CCode)) false true
def c22_b0 : CCode := (fun (f t : Bool) => ((.seq (.seq c22_o2
 (.cond (.s [f, f, t]) .skip (.exit 0)))
 (.seq (.block 1 (.seq c22_o3
 (.cond (.s [t, t, f, t]) (.seq c22_o4
 .ret) .skip)))
 c22_o5)) : CCode)) false true
def c22_l0 : CCode := (fun (f t : Bool) => (.loop [[], [f], [t], [f, f, f]] c22_b0 : CCode)) false true
def c22_o6 : CCode := (fun (f t : Bool) => (.trim [[], [f]] (.ops [
  ⟨some [f, f, t, t], .move (.s []), none⟩,
  ⟨some [t, f, t, t], .len 1 (.s [f, f, t, t]), none⟩,
  ⟨some [f, t, t, t], .move (.s [f]), none⟩,
  ⟨some [t, t, t, t], .bin .eql (.s [t, f, t, t]) (.s [f, t, t, t]), none⟩,
  ⟨some [t, t], .move (.s [t, t, t, t]), none⟩]) : CCode)) false true
def c22 : CFunc := (fun (f t : Bool) => ({ params := [[], [f], [t]], results := [.slot [t, t]], shared := f, body := (.seq c22_o0
 (.seq (.seq c22_o1
 (.block 0 c22_l0))
 (.seq c22_o6
 .ret))) } : CFunc)) false true
def c23_o0 : CCode := (fun (f t : Bool) => (.trim [] (.ops [
  ⟨some [], .move (.c (.bool f)), none⟩]) : CCode)) false true
def c23_o1 : CCode := (fun (f t : Bool) => (.trim [] (.ops [
  ⟨some [f, t, t], .buildSlice none 1 2 [.int .i64 0, .int .i64 0] [(0, 1, (.c (.int .i64 0))), (1, 1, (.c (.int .i64 1)))], none⟩,
  ⟨some [t, t, t], .buildSlice none 1 2 [.int .i64 0, .int .i64 0] [(0, 1, (.c (.int .i64 1))), (1, 1, (.c (.int .i64 1)))], none⟩,
  ⟨some [f, f, f, f], .buildSlice none 1 2 [.nils, .nils] [(0, 1, (.s [f, t, t])), (1, 1, (.s [t, t, t]))], none⟩,
  ⟨some [t, f, f, f], .call f (.c (.func 34 [])) [(.s [f, f, f, f])], none⟩,
  ⟨some [t, f, t], .move (.s [t, f, f, f]), none⟩,
  ⟨some [f, t, f, f], .extract 0 (.s [t, f, t]), none⟩,
  ⟨some [t, t, f, f], .extract 1 (.s [t, f, t]), none⟩,
  ⟨some [f], .move (.s [f, t, f, f]), none⟩,
  ⟨some [t], .move (.s [t, t, f, f]), none⟩]) : CCode)) false true
def c23_o2 : CCode := (fun (f t : Bool) => (.trim [[f], [t]] (.ops [
  ⟨some [t, f, t, f], .buildSlice none 1 2 [.int .i64 0, .int .i64 0] [(0, 1, (.c (.int .i64 0))), (1, 1, (.c (.int .i64 1)))], none⟩,
  ⟨some [f, t, t, f], .buildSlice none 1 2 [.int .i64 0, .int .i64 0] [(0, 1, (.c (.int .i64 1))), (1, 1, (.c (.int .i64 1)))], none⟩,
  ⟨some [t, t, t, f], .buildSlice none 1 2 [.nils, .nils] [(0, 1, (.s [t, f, t, f])), (1, 1, (.s [f, t, t, f]))], none⟩,
  ⟨some [f, f, f, t], .call f (.c (.func 33 [])) [(.s [t, t, t, f])], none⟩,
  ⟨some [f, f, t, f], .move (.s [f, f, f, t]), none⟩,
  ⟨some [t, f, f, t], .extract 0 (.s [f, f, t, f]), none⟩,
  ⟨some [f, t, f, t], .extract 1 (.s [f, f, t, f]), none⟩,
  ⟨some [f, f], .move (.s [t, f, f, t]), none⟩,
  ⟨some [t, f], .move (.s [f, t, f, t]), none⟩]) : CCode)) false true
def c23_o3 : CCode := (fun (f t : Bool) => (.trim [[f], [t], [f, f], [t, f]] (.ops [
  ⟨some [f, f, t, t], .buildSlice none 1 2 [.int .i64 0, .int .i64 0] [(0, 1, (.c (.int .i64 0))), (1, 1, (.c (.int .i64 1)))], none⟩,
  ⟨some [t, f, t, t], .buildSlice none 1 2 [.int .i64 0, .int .i64 0] [(0, 1, (.c (.int .i64 1))), (1, 1, (.c (.int .i64 0)))], none⟩,
  ⟨some [f, t, t, t], .buildSlice none 1 2 [.nils, .nils] [(0, 1, (.s [f, f, t, t])), (1, 1, (.s [t, f, t, t]))], none⟩,
  ⟨some [t, t, t, t], .call f (.c (.func 32 [])) [(.s [f, t, t, t])], none⟩,
  ⟨some [t, t, f, t], .move (.s [t, t, t, t]), none⟩,
  ⟨some [f, f, f, f, f], .extract 0 (.s [t, t, f, t]), none⟩,
  ⟨some [t, f, f, f, f], .extract 1 (.s [t, t, f, t]), none⟩,
  ⟨some [f, t], .move (.s [f, f, f, f, f]), none⟩,
  ⟨some [t, t], .move (.s [t, f, f, f, f]), none⟩]) : CCode)) false true
def c23_o4 : CCode := (fun (f t : Bool) => (.trim [[f], [t], [f, f], [t, f], [f, t], [t, t]] (.ops [
  ⟨some [t, t, f, f, f], .buildSlice none 1 2 [.int .i64 0, .int .i64 0] [(0, 1, (.c (.int .i64 1))), (1, 1, (.c (.int .i64 1)))], none⟩,
  ⟨some [f, f, t, f, f], .buildSlice none 1 2 [.int .i64 0, .int .i64 0] [(0, 1, (.c (.int .i64 0))), (1, 1, (.c (.int .i64 1)))], none⟩,
  ⟨some [t, f, t, f, f], .buildSlice none 1 2 [.nils, .nils] [(0, 1, (.s [t, t, f, f, f])), (1, 1, (.s [f, f, t, f, f]))], none⟩,
  ⟨some [f, t, t, f, f], .call f (.c (.func 39 [])) [(.s [t, f, t, f, f]), (.c (.int .i64 0))], none⟩,
  ⟨some [f, t, f, f, f], .move (.s [f, t, t, f, f]), none⟩,
  ⟨some [t, t, t, f, f], .extract 0 (.s [f, t, f, f, f]), none⟩,
  ⟨some [f, f, f, t, f], .extract 1 (.s [f, t, f, f, f]), none⟩,
  ⟨some [f, f, f], .move (.s [t, t, t, f, f]), none⟩,
  ⟨some [t, f, f], .move (.s [f, f, f, t, f]), none⟩]) : CCode)) false true
def c23_o5 : CCode := (fun (f t : Bool) => (.trim [[f], [t], [f, f], [t, f], [f, t], [t, t], [f, f, f], [t, f, f]] (.ops [
  ⟨some [f, t, f, t, f], .buildSlice none 1 2 [.int .i64 0, .int .i64 0] [(0, 1, (.c (.int .i64 0))), (1, 1, (.c (.int .i64 1)))], none⟩,
  ⟨some [t, t, f, t, f], .buildSlice none 1 2 [.int .i64 0, .int .i64 0] [(0, 1, (.c (.int .i64 1))), (1, 1, (.c (.int .i64 1)))], none⟩,
  ⟨some [f, f, t, t, f], .buildSlice none 1 2 [.nils, .nils] [(0, 1, (.s [f, t, f, t, f])), (1, 1, (.s [t, t, f, t, f]))], none⟩,
  ⟨some [t, f, t, t, f], .buildSlice none 1 2 [.int .i64 0, .int .i64 0] [(0, 1, (.c (.int .i64 1))), (1, 1, (.c (.int .i64 1)))], none⟩,
  ⟨some [f, t, t, t, f], .call f (.c (.func 20 [])) [(.s [f, f, t, t, f]), (.s [t, f, t, t, f])], none⟩,
  ⟨some [t, f, f, t, f], .move (.s [f, t, t, t, f]), none⟩,
  ⟨some [t, t, t, t, f], .extract 0 (.s [t, f, f, t, f]), none⟩,
  ⟨some [f, f, f, f, t], .extract 1 (.s [t, f, f, t, f]), none⟩,
  ⟨some [t, f, f, f, t], .extract 2 (.s [t, f, f, t, f]), none⟩,
  ⟨some [f, t, f], .alloc none [.int .i64 0, .int .i64 0], none⟩,
  ⟨some [t, t, f], .alloc none [.int .i64 0, .int .i64 0], none⟩,
  ⟨none, .store 2 (.s [f, t, f]) (.s [t, t, t, t, f]), none⟩,
  ⟨none, .store 2 (.s [t, t, f]) (.s [f, f, f, f, t]), none⟩,
  ⟨some [f, f, t], .move (.s [t, f, f, f, t]), none⟩]) : CCode)) false true
def c23_o6 : CCode := (fun (f t : Bool) => (.trim [[f], [t], [f, f], [t, f], [f, t], [t, t], [f, f, f], [t, f, f], [f, t, f], [t, t, f], [f, f, t]] (.ops [
  ⟨some [f, t, f, f, t], .move (.s [t]), none⟩,
  ⟨some [t, t, f, f, t], .bin .neq (.s [f, t, f, f, t]) (.c (.int .i64 0)), none⟩,
  ⟨some [f, f, t, f, t], .move (.s [t, t, f, f, t]), none⟩,
  ⟨some [t, f, t, f, t], .move (.s [f]), some ([f, f, t, f, t], f)⟩,
  ⟨some [f, t, t, f, t], .bin .neq (.s [t, f, t, f, t]) (.c (.int .i64 2)), some ([f, f, t, f, t], f)⟩,
  ⟨some [t, t, t, f, t], .pick (.s [f, f, t, f, t]) (.c (.bool t)) (.s [f, t, t, f, t]), none⟩,
  ⟨some [f, f, f, t, t], .move (.s [t, t, t, f, t]), none⟩,
  ⟨some [t, f, f, t, t], .move (.s [t, f]), some ([f, f, f, t, t], f)⟩,
  ⟨some [f, t, f, t, t], .bin .neq (.s [t, f, f, t, t]) (.c (.int .i64 0)), some ([f, f, f, t, t], f)⟩,
  ⟨some [t, t, f, t, t], .pick (.s [f, f, f, t, t]) (.c (.bool t)) (.s [f, t, f, t, t]), none⟩,
  ⟨some [f, f, t, t, t], .move (.s [t, t, f, t, t]), none⟩,
  ⟨some [t, f, t, t, t], .move (.s [f, f]), some ([f, f, t, t, t], f)⟩,
  ⟨some [f, t, t, t, t], .buildSlice none 1 3 [.int .i64 0, .int .i64 0, .int .i64 0] [(0, 1, (.c (.int .i64 (-1)))), (1, 1, (.c (.int .i64 (-1)))), (2, 1, (.c (.int .i64 1)))], some ([f, f, t, t, t], f)⟩,
  ⟨some [t, t, t, t, t], .call f (.c (.func 24 [])) [(.s [t, f, t, t, t]), (.s [f, t, t, t, t])], some ([f, f, t, t, t], f)⟩,
  ⟨some [f, f, f, f, f, f], .un .not (.s [t, t, t, t, t]), some ([f, f, t, t, t], f)⟩,
  ⟨some [t, f, f, f, f, f], .pick (.s [f, f, t, t, t]) (.c (.bool t)) (.s [f, f, f, f, f, f]), none⟩,
  ⟨some [f, t, f, f, f, f], .move (.s [t, f, f, f, f, f]), none⟩,
  ⟨some [t, t, f, f, f, f], .move (.s [t, t]), some ([f, t, f, f, f, f], f)⟩,
  ⟨some [f, f, t, f, f, f], .bin .neq (.s [t, t, f, f, f, f]) (.c (.int .i64 0)), some ([f, t, f, f, f, f], f)⟩,
  ⟨some [t, f, t, f, f, f], .pick (.s [f, t, f, f, f, f]) (.c (.bool t)) (.s [f, f, t, f, f, f]), none⟩,
  ⟨some [f, t, t, f, f, f], .move (.s [t, f, t, f, f, f]), none⟩,
  ⟨some [t, t, t, f, f, f], .move (.s [f, t]), some ([f, t, t, f, f, f], f)⟩,
  ⟨some [f, f, f, t, f, f], .buildSlice none 1 2 [.int .i64 0, .int .i64 0] [(0, 1, (.c (.int .i64 2))), (1, 1, (.c (.int .i64 2)))], some ([f, t, t, f, f, f], f)⟩,
  ⟨some [t, f, f, t, f, f], .call f (.c (.func 24 [])) [(.s [t, t, t, f, f, f]), (.s [f, f, f, t, f, f])], some ([f, t, t, f, f, f], f)⟩,
  ⟨some [f, t, f, t, f, f], .un .not (.s [t, f, f, t, f, f]), some ([f, t, t, f, f, f], f)⟩,
  ⟨some [t, t, f, t, f, f], .pick (.s [f, t, t, f, f, f]) (.c (.bool t)) (.s [f, t, f, t, f, f]), none⟩,
  ⟨some [f, f, t, t, f, f], .move (.s [t, t, f, t, f, f]), none⟩,
  ⟨some [t, f, t, t, f, f], .move (.s [t, f, f]), some ([f, f, t, t, f, f], f)⟩,
  ⟨some [f, t, t, t, f, f], .bin .neq (.s [t, f, t, t, f, f]) (.c (.int .i64 0)), some ([f, f, t, t, f, f], f)⟩,
  ⟨some [t, t, t, t, f, f], .pick (.s [f, f, t, t, f, f]) (.c (.bool t)) (.s [f, t, t, t, f, f]), none⟩,
  ⟨some [f, f, f, f, t, f], .move (.s [t, t, t, t, f, f]), none⟩,
  ⟨some [t, f, f, f, t, f], .move (.s [f, f, f]), some ([f, f, f, f, t, f], f)⟩,
  ⟨some [f, t, f, f, t, f], .bin .neq (.s [t, f, f, f, t, f]) (.c (.int .i64 1)), some ([f, f, f, f, t, f], f)⟩,
  ⟨some [t, t, f, f, t, f], .pick (.s [f, f, f, f, t, f]) (.c (.bool t)) (.s [f, t, f, f, t, f]), none⟩,
  ⟨some [f, f, t, f, t, f], .move (.s [t, t, f, f, t, f]), none⟩,
  ⟨some [t, f, t, f, t, f], .move (.s [f, f, t]), some ([f, f, t, f, t, f], f)⟩,
  ⟨some [f, t, t, f, t, f], .bin .neq (.s [t, f, t, f, t, f]) (.c (.int .i64 0)), some ([f, f, t, f, t, f], f)⟩,
  ⟨some [t, t, t, f, t, f], .pick (.s [f, f, t, f, t, f]) (.c (.bool t)) (.s [f, t, t, f, t, f]), none⟩,
  ⟨some [f, f, f, t, t, f], .move (.s [t, t, t, f, t, f]), none⟩,
  ⟨some [t, f, f, t, t, f], .load (some 2) (.s [f, t, f]), some ([f, f, f, t, t, f], f)⟩,
  ⟨some [f, t, f, t, t, f], .build [.int .i64 0, .int .i64 0] [(0, 1, (.c (.int .i64 1))), (1, 1, (.c (.int .i64 1)))], some ([f, f, f, t, t, f], f)⟩,
  ⟨some [t, t, f, t, t, f], .eqa [.i .i64, .i .i64] t (.s [t, f, f, t, t, f]) (.s [f, t, f, t, t, f]), some ([f, f, f, t, t, f], f)⟩,
  ⟨some [f, f, t, t, t, f], .pick (.s [f, f, f, t, t, f]) (.c (.bool t)) (.s [t, t, f, t, t, f]), none⟩,
  ⟨some [t, f, t, t, t, f], .move (.s [f, f, t, t, t, f]), none⟩,
  ⟨some [f, t, t, t, t, f], .load (some 2) (.s [t, t, f]), some ([t, f, t, t, t, f], f)⟩,
  ⟨some [t, t, t, t, t, f], .build [.int .i64 0, .int .i64 0] [(0, 1, (.c (.int .i64 2))), (1, 1, (.c (.int .i64 1)))], some ([t, f, t, t, t, f], f)⟩,
  ⟨some [f, f, f, f, f, t], .eqa [.i .i64, .i .i64] t (.s [f, t, t, t, t, f]) (.s [t, t, t, t, t, f]), some ([t, f, t, t, t, f], f)⟩,
  ⟨some [t, f, f, f, f, t], .pick (.s [t, f, t, t, t, f]) (.c (.bool t)) (.s [f, f, f, f, f, t]), none⟩]) : CCode)) false true
def c23_o7 : CCode := (fun (f t : Bool) => (.trim [] (.ops [
  ⟨some [], .move (.c (.bool f)), none⟩]) : CCode)) false true
def c23_o8 : CCode := (fun (f t : Bool) => (.trim [] (.ops [
  ⟨some [], .move (.c (.bool f)), none⟩]) : CCode)) false true
def c23_o9 : CCode := (fun (f t : Bool) => (.trim [] (.ops [
  ⟨some [], .move (.c (.bool t)), none⟩]) : CCode)) false true
def c23 : CFunc := (fun (f t : Bool) => ({ params := [], results := [.slot []], shared := f, body := (.seq c23_o0
 (.seq c23_o1
 (.seq c23_o2
 (.seq c23_o3
 (.seq c23_o4
 (.seq c23_o5
 (.seq (.seq c23_o6
 (.cond (.s [t, f, f, f, f, t]) (.seq c23_o7
 .ret) .skip))
 (.seq (.cond (.c (.bool f)) (.seq c23_o8
 .ret) .skip)
 (.seq c23_o9
 .ret))))))))) } : CFunc)) false true
def c24_o0 : CCode := (fun (f t : Bool) => (.trim [[], [f]] (.ops [
  ⟨some [t, f], .move (.c (.bool f)), none⟩]) : CCode)) false true
def c24_o1 : CCode := (fun (f t : Bool) => (.trim [[], [f]] (.ops [
  ⟨some [t, t], .move (.s []), none⟩,
  ⟨some [f, f, f], .len 1 (.s [t, t]), none⟩,
  ⟨some [t, f, f], .move (.s [f]), none⟩,
  ⟨some [f, t, f], .len 1 (.s [t, f, f]), none⟩,
  ⟨some [t, t, f], .bin .neq (.s [f, f, f]) (.s [f, t, f]), none⟩]) : CCode)) false true
def c24_o2 : CCode := (fun (f t : Bool) => (.trim [] (.ops [
  ⟨some [t, f], .move (.c (.bool f)), none⟩]) : CCode)) false true
def c24_o3 : CCode := (fun (f t : Bool) => (.trim [[], [f]] (.ops [
  ⟨some [f, t], .move (.c (.int .i64 0)), none⟩]) : CCode)) false true
def c24_o4 : CCode := (fun (f t : Bool) => (.trim [[], [f], [f, t]] (.ops [
  ⟨some [f, f, t], .move (.s [f, t]), none⟩,
  ⟨some [t, f, t], .move (.s []), none⟩,
  ⟨some [f, t, t], .len 1 (.s [t, f, t]), none⟩,
  ⟨some [t, t, t], .bin .lss (.s [f, f, t]) (.s [f, t, t]), none⟩]) : CCode)) false true
def c24_o5 : CCode := (fun (f t : Bool) => (.trim [[], [f], [f, t]] (.draw 0 [
  ⟨some [f, t, f, f], .move (.s []), none⟩,
  ⟨some [t, t, f, f], .move (.s [f, t]), none⟩,
  ⟨some [f, f, t, f], .idxSl 1 (.s [f, t, f, f]) (.s [t, t, f, f]), none⟩,
  ⟨some [t, f, t, f], .load none (.s [f, f, t, f]), none⟩,
  ⟨some [f, t, t, f], .move (.s [f]), none⟩,
  ⟨some [t, t, t, f], .move (.s [f, t]), none⟩,
  ⟨some [f, f, f, t], .idxSl 1 (.s [f, t, t, f]) (.s [t, t, t, f]), none⟩,
  ⟨some [t, f, f, t], .load none (.s [f, f, f, t]), none⟩,
  ⟨some [f, t, f, t], .bin .neq (.s [t, f, t, f]) (.s [t, f, f, t]), none⟩]
  [(3, 7)] [[], [], [0, 1], [0, 1, 2], [], [], [4, 5], [4, 5, 6], (r 8)]) : CCode)) false true
def c24_o6 : CCode := (fun (f t : Bool) => (.trim [] (.ops [
  ⟨some [t, f], .move (.c (.bool f)), none⟩]) : CCode)) false true
def c24_o7 : CCode := (fun (f t : Bool) => (.trim [[], [f], [f, t]] (.ops [
  ⟨some [f, f, f, f], .move (.s [f, t]), none⟩,
  ⟨some [t, f, f, f], .bin .add (.s [f, f, f, f]) (.c (.int .i64 1)), none⟩,
  ⟨some [f, t], .move (.s [t, f, f, f]), none⟩]) : CCode)) false true
def c24_b0 : CCode := (fun (f t : Bool) => ((.seq (.seq c24_o4
 (.cond (.s [t, t, t]) .skip (.exit 0)))
 (.seq (.block 1 (.seq c24_o5
 (.cond (.s [f, t, f, t]) (.seq c24_o6
 .ret) .skip)))
 c24_o7)) : CCode)) false true
def c24_l0 : CCode := (fun (f t : Bool) => (.loop [[], [f], [f, t]] c24_b0 : CCode)) false true
def c24_o8 : CCode := (fun (f t : Bool) => (.trim [] (.ops [
  ⟨some [t, f], .move (.c (.bool t)), none⟩]) : CCode)) false true
def c24 : CFunc := (fun (f t : Bool) => ({ params := [[], [f]], results := [.slot [t, f]], shared := f, body := (.seq c24_o0
 (.seq (.seq c24_o1
 (.cond (.s [t, t, f]) (.seq c24_o2
 .ret) .skip))
 (.seq (.seq c24_o3
 (.block 0 c24_l0))
 (.seq c24_o8
 .ret)))) } : CFunc)) false true
def c27_o0 : CCode := (fun (f t : Bool) => (.trim [[], [f]] (.ops [
  ⟨some [t, f], .move (.c (.int .i64 0)), none⟩]) : CCode)) false true
def c27_o1 : CCode := (fun (f t : Bool) => (.trim [[], [f]] (.ops [
  ⟨some [f, t], .move (.s []), none⟩,
  ⟨some [t, t], .conv .u64 (.s [f, t]), none⟩,
  ⟨some [f, f, f], .move (.s [f]), none⟩,
  ⟨some [t, f, f], .conv .u64 (.s [f, f, f]), none⟩,
  ⟨some [f, t, f], .bin .rem (.s [t, t]) (.s [t, f, f]), none⟩,
  ⟨some [t, t, f], .conv .i64 (.s [f, t, f]), none⟩,
  ⟨some [t, f], .move (.s [t, t, f]), none⟩]) : CCode)) false true
def c27 : CFunc := (fun (f t : Bool) => ({ params := [[], [f]], results := [.slot [t, f]], shared := f, body := (.seq c27_o0
 (.seq c27_o1
 .ret)) } : CFunc)) false true
def c28_o0 : CCode := (fun (f t : Bool) => (.trim [[], [f], [t]] (.ops [
  ⟨some [t, t], .move (.c (.nils)), none⟩]) : CCode)) false true
def c28_o1 : CCode := (fun (f t : Bool) => (.trim [[], [f], [t]] (.ops [
  ⟨some [f, f, f], .move (.c (.nils)), none⟩]) : CCode)) false true
def c28_o2 : CCode := (fun (f t : Bool) => (.trim [[], [f], [t], [f, f, f]] (.ops [
  ⟨some [t, f, f], .move (.c (.int .i64 0)), none⟩]) : CCode)) false true
def c28_o3 : CCode := (fun (f t : Bool) => (.trim [[], [f], [t], [f, f, f], [t, f, f]] (.ops [
  ⟨some [t, f, t], .move (.s [t, f, f]), none⟩,
  ⟨some [f, t, t], .move (.s [f]), none⟩,
  ⟨some [t, t, t], .bin .lss (.s [t, f, t]) (.s [f, t, t]), none⟩]) : CCode)) false true
def c28_o4 : CCode := (fun (f t : Bool) => (.trim [[], [f], [t], [f, f, f], [t, f, f]] (.ops [
  ⟨some [f, t, f, f], .move (.s [f]), none⟩,
  ⟨some [t, t, f, f], .makeSlice none 1 8 [.int .i64 0] (.s [f, t, f, f]), none⟩,
  ⟨some [f, t, f], .move (.s [t, t, f, f]), none⟩]) : CCode)) false true
def c28_o5 : CCode := (fun (f t : Bool) => (.trim [[], [f], [t], [f, f, f], [t, f, f], [f, t, f]] (.ops [
  ⟨some [t, t, f], .move (.c (.int .i64 0)), none⟩]) : CCode)) false true
def c28_o6 : CCode := (fun (f t : Bool) => (.trim [[], [f], [t], [f, f, f], [t, f, f], [f, t, f], [t, t, f]] (.ops [
  ⟨some [f, f, t, f], .move (.s [t, t, f]), none⟩,
  ⟨some [t, f, t, f], .move (.s [f]), none⟩,
  ⟨some [f, t, t, f], .bin .lss (.s [f, f, t, f]) (.s [t, f, t, f]), none⟩,
  ⟨some [t, t, t, f], .move (.s [f, t, t, f]), none⟩,
  ⟨some [f, f, f, t], .move (.s [t, f, f]), some ([t, t, t, f], t)⟩,
  ⟨some [t, f, f, t], .move (.s []), some ([t, t, t, f], t)⟩,
  ⟨some [f, t, f, t], .len 1 (.s [t, f, f, t]), some ([t, t, t, f], t)⟩,
  ⟨some [t, t, f, t], .bin .lss (.s [f, f, f, t]) (.s [f, t, f, t]), some ([t, t, t, f], t)⟩,
  ⟨some [f, f, t, t], .pick (.s [t, t, t, f]) (.s [t, t, f, t]) (.c (.bool f)), none⟩,
  ⟨some [t, f, t, t], .move (.s [f, f, t, t]), none⟩,
  ⟨some [f, t, t, t], .move (.s [t, t, f]), some ([t, f, t, t], t)⟩,
  ⟨some [t, t, t, t], .move (.s []), some ([t, f, t, t], t)⟩,
  ⟨some [f, f, f, f, f], .move (.s [t, f, f]), some ([t, f, t, t], t)⟩,
  ⟨some [t, f, f, f, f], .idxSl 1 (.s [t, t, t, t]) (.s [f, f, f, f, f]), some ([t, f, t, t], t)⟩,
  ⟨some [f, t, f, f, f], .load none (.s [t, f, f, f, f]), some ([t, f, t, t], t)⟩,
  ⟨some [t, t, f, f, f], .len 1 (.s [f, t, f, f, f]), some ([t, f, t, t], t)⟩,
  ⟨some [f, f, t, f, f], .bin .lss (.s [f, t, t, t]) (.s [t, t, f, f, f]), some ([t, f, t, t], t)⟩,
  ⟨some [t, f, t, f, f], .pick (.s [t, f, t, t]) (.s [f, f, t, f, f]) (.c (.bool f)), none⟩]) : CCode)) false true
def c28_o7 : CCode := (fun (f t : Bool) => (.trim [[], [f], [t], [f, f, f], [t, f, f], [f, t, f], [t, t, f]] (.ops [
  ⟨some [f, f, f, t, f], .move (.s []), none⟩,
  ⟨some [t, f, f, t, f], .move (.s [t, f, f]), none⟩,
  ⟨some [f, t, f, t, f], .idxSl 1 (.s [f, f, f, t, f]) (.s [t, f, f, t, f]), none⟩,
  ⟨some [t, t, f, t, f], .load none (.s [f, t, f, t, f]), none⟩,
  ⟨some [f, f, t, t, f], .move (.s [t, t, f]), none⟩,
  ⟨some [t, f, t, t, f], .idxSl 1 (.s [t, t, f, t, f]) (.s [f, f, t, t, f]), none⟩,
  ⟨some [f, t, t, t, f], .load none (.s [t, f, t, t, f]), none⟩,
  ⟨some [f, f, t], .move (.s [f, t, t, t, f]), none⟩]) : CCode)) false true
def c28_o8 : CCode := (fun (f t : Bool) => (.trim [[], [f], [t], [f, f, f], [t, f, f], [f, t, f], [t, t, f], [f, f, t]] (.ops [
  ⟨some [t, t, t, t, f], .move (.s [f, f, t]), none⟩,
  ⟨some [f, f, f, f, t], .bin .lss (.s [t, t, t, t, f]) (.c (.int .i64 0)), none⟩,
  ⟨some [t, f, f, f, t], .move (.s [f, f, f, f, t]), none⟩,
  ⟨some [f, t, f, f, t], .move (.s [f, f, t]), some ([t, f, f, f, t], f)⟩,
  ⟨some [t, t, f, f, t], .move (.s [t]), some ([t, f, f, f, t], f)⟩,
  ⟨some [f, f, t, f, t], .bin .gtr (.s [f, t, f, f, t]) (.s [t, t, f, f, t]), some ([t, f, f, f, t], f)⟩,
  ⟨some [t, f, t, f, t], .pick (.s [t, f, f, f, t]) (.c (.bool t)) (.s [f, f, t, f, t]), none⟩]) : CCode)) false true
def c28_o9 : CCode := (fun (f t : Bool) => (.trim [[], [f], [t], [f, f, f], [t, f, f], [f, t, f], [t, t, f], [f, f, t]] (.ops [
  ⟨some [f, t, t, f, t], .move (.s [f, f, t]), none⟩,
  ⟨some [t, t, t, f, t], .move (.s [t]), none⟩,
  ⟨some [f, f, f, t, t], .bin .add (.s [t, t, t, f, t]) (.c (.int .i64 1)), none⟩,
  ⟨some [t, f, f, t, t], .call f (.c (.func 27 [])) [(.s [f, t, t, f, t]), (.s [f, f, f, t, t])], none⟩,
  ⟨some [f, f, t], .move (.s [t, f, f, t, t]), none⟩]) : CCode)) false true
def c28_o10 : CCode := (fun (f t : Bool) => (.trim [[], [f], [t], [f, f, f], [t, f, f], [f, t, f], [t, t, f], [f, f, t]] (.ops [
  ⟨some [f, t, f, t, t], .move (.s [f, t, f]), none⟩,
  ⟨some [t, t, f, t, t], .move (.s [t, t, f]), none⟩,
  ⟨some [f, f, t, t, t], .move (.s [f, f, t]), none⟩,
  ⟨some [t, f, t, t, t], .idxSl 1 (.s [f, t, f, t, t]) (.s [t, t, f, t, t]), none⟩,
  ⟨none, .store 1 (.s [t, f, t, t, t]) (.s [f, f, t, t, t]), none⟩]) : CCode)) false true
def c28_o11 : CCode := (fun (f t : Bool) => (.trim [[], [f], [t], [f, f, f], [t, f, f], [f, t, f], [t, t, f]] (.ops [
  ⟨some [f, t, t, f, f], .move (.s [t, t, f]), none⟩,
  ⟨some [t, t, t, f, f], .bin .add (.s [f, t, t, f, f]) (.c (.int .i64 1)), none⟩,
  ⟨some [t, t, f], .move (.s [t, t, t, f, f]), none⟩]) : CCode)) false true
def c28_b0 : CCode := (fun (f t : Bool) => ((.seq (.seq c28_o6
 (.cond (.s [t, f, t, f, f]) .skip (.exit 2)))
 (.seq (.block 3 (.seq c28_o7
 (.seq (.seq c28_o8
 (.cond (.s [t, f, t, f, t]) c28_o9 .skip))
 c28_o10)))
 c28_o11)) : CCode)) false true
def c28_l0 : CCode := (fun (f t : Bool) => (.loop [[], [f], [t], [f, f, f], [t, f, f], [f, t, f], [t, t, f]] c28_b0 : CCode)) false true
def c28_o12 : CCode := (fun (f t : Bool) => (.trim [[], [f], [t], [f, f, f], [t, f, f], [f, t, f]] (.ops [
  ⟨some [f, t, t, t, t], .move (.s [f, f, f]), none⟩,
  ⟨some [t, t, t, t, t], .move (.s [f, t, f]), none⟩,
  ⟨some [f, f, f, f, f, f], .buildSlice none 1 1 [.nils] [(0, 1, (.s [t, t, t, t, t]))], none⟩,
  ⟨some [t, f, f, f, f, f], .append none 1 24 (.s [f, t, t, t, t]) (.s [f, f, f, f, f, f]), none⟩,
  ⟨some [f, f, f], .move (.s [t, f, f, f, f, f]), none⟩]) : CCode)) false true
def c28_o13 : CCode := (fun (f t : Bool) => (.trim [[], [f], [t], [f, f, f], [t, f, f]] (.ops [
  ⟨some [f, f, f, f], .move (.s [t, f, f]), none⟩,
  ⟨some [t, f, f, f], .bin .add (.s [f, f, f, f]) (.c (.int .i64 1)), none⟩,
  ⟨some [t, f, f], .move (.s [t, f, f, f]), none⟩]) : CCode)) false true
def c28_b1 : CCode := (fun (f t : Bool) => ((.seq (.seq c28_o3
 (.cond (.s [t, t, t]) .skip (.exit 0)))
 (.seq (.block 1 (.seq c28_o4
 (.seq (.seq c28_o5
 (.block 2 c28_l0))
 c28_o12)))
 c28_o13)) : CCode)) false true
def c28_l1 : CCode := (fun (f t : Bool) => (.loop [[], [f], [t], [f, f, f], [t, f, f]] c28_b1 : CCode)) false true
def c28_o14 : CCode := (fun (f t : Bool) => (.trim [[f, f, f]] (.ops [
  ⟨some [f, t, f, f, f, f], .move (.s [f, f, f]), none⟩,
  ⟨some [t, t], .move (.s [f, t, f, f, f, f]), none⟩]) : CCode)) false true
def c28 : CFunc := (fun (f t : Bool) => ({ params := [[], [f], [t]], results := [.slot [t, t]], shared := f, body := (.seq c28_o0
 (.seq c28_o1
 (.seq (.seq c28_o2
 (.block 0 c28_l1))
 (.seq c28_o14
 .ret)))) } : CFunc)) false true
def c29_o0 : CCode := (fun (f t : Bool) => (.trim [[], [f]] (.ops [
  ⟨some [t], .box none (.s []), none⟩,
  ⟨some [f, f], .box none (.s [f]), none⟩,
  ⟨some [t, f], .move (.c (.bool f)), none⟩]) : CCode)) false true
def c29_o1 : CCode := (fun (f t : Bool) => (.trim [[t], [f, f]] (.ops [
  ⟨some [f, t], .fieldAddr 0 (.s [t]), none⟩,
  ⟨some [t, t], .load none (.s [f, t]), none⟩,
  ⟨some [f, f, f], .fieldAddr 1 (.s [f, f]), none⟩,
  ⟨some [t, f, f], .load none (.s [f, f, f]), none⟩,
  ⟨some [f, t, f], .bin .mul (.s [t, t]) (.s [t, f, f]), none⟩,
  ⟨some [t, t, f], .fieldAddr 0 (.s [f, f]), none⟩,
  ⟨some [f, f, t], .load none (.s [t, t, f]), none⟩,
  ⟨some [t, f, t], .fieldAddr 1 (.s [t]), none⟩,
  ⟨some [f, t, t], .load none (.s [t, f, t]), none⟩,
  ⟨some [t, t, t], .bin .mul (.s [f, f, t]) (.s [f, t, t]), none⟩,
  ⟨some [f, f, f, f], .bin .lss (.s [f, t, f]) (.s [t, t, t]), none⟩,
  ⟨some [t, f], .move (.s [f, f, f, f]), none⟩]) : CCode)) false true
def c29 : CFunc := (fun (f t : Bool) => ({ params := [[], [f]], results := [.slot [t, f]], shared := f, body := (.seq c29_o0
 (.seq c29_o1
 .ret)) } : CFunc)) false true
def c32_o0 : CCode := (fun (f t : Bool) => (.trim [[]] (.ops [
  ⟨some [t], .move (.c (.nils)), none⟩,
  ⟨some [f, f], .move (.c (.int .i64 0)), none⟩]) : CCode)) false true
def c32_o1 : CCode := (fun (f t : Bool) => (.trim [[]] (.ops [
  ⟨some [f, f, t], .move (.s []), none⟩,
  ⟨some [t, f, t], .call f (.c (.func 54 [])) [(.s [f, f, t])], none⟩,
  ⟨some [t, t, f], .move (.s [t, f, t]), none⟩,
  ⟨some [f, t, t], .extract 0 (.s [t, t, f]), none⟩,
  ⟨some [t, t, t], .extract 1 (.s [t, t, f]), none⟩,
  ⟨some [t, f], .alloc none (List.replicate 65 (.int .i64 0)), none⟩,
  ⟨none, .store 65 (.s [t, f]) (.s [f, t, t]), none⟩,
  ⟨some [f, t], .move (.s [t, t, t]), none⟩]) : CCode)) false true
def c32_o2 : CCode := (fun (f t : Bool) => (.trim [[t, f], [f, t]] (.ops [
  ⟨some [f, f, f, f], .move (.s [f, t]), none⟩,
  ⟨some [t, f, f, f], .un .not (.s [f, f, f, f]), none⟩]) : CCode)) false true
def c32_o3 : CCode := (fun (f t : Bool) => (.trim [] (.ops [
  ⟨some [t], .move (.c (.nils)), none⟩,
  ⟨some [f, f], .move (.c (.int .i64 2)), none⟩]) : CCode)) false true
def c32_o4 : CCode := (fun (f t : Bool) => (.trim [[t, f]] (.ops [
  ⟨some [t, t], .move (.c (.nils)), none⟩]) : CCode)) false true
def c32_o5 : CCode := (fun (f t : Bool) => (.trim [[t, f], [t, t]] (.ops [
  ⟨some [f, t, f, f], .fieldAddr 0 (.s [t, f]), none⟩,
  ⟨some [t, t, f, f], .load none (.s [f, t, f, f]), none⟩,
  ⟨some [f, f, t, f], .move (.c (.int .i64 0)), none⟩]) : CCode)) false true
def c32_o6 : CCode := (fun (f t : Bool) => (.trim [[t, f], [t, t], [t, t, f, f], [f, f, t, f]] (.ops [
  ⟨some [t, f, t, f], .bin .lss (.s [f, f, t, f]) (.s [t, t, f, f]), none⟩]) : CCode)) false true
def c32_o7 : CCode := (fun (f t : Bool) => (.trim [[t, f], [t, t], [t, t, f, f], [f, f, t, f]] (.ops [
  ⟨some [f, t, t, f], .move (.s [f, f, t, f]), none⟩,
  ⟨some [f, f, f], .move (.s [f, t, t, f]), none⟩]) : CCode)) false true
def c32_o8 : CCode := (fun (f t : Bool) => (.trim [[t, f], [t, t], [f, f, f], [t, t, f, f], [f, f, t, f]] (.ops [
  ⟨some [f, f, f, t], .load (some 65) (.s [t, f]), none⟩,
  ⟨some [t, f, f, t], .move (.s [f, f, f]), none⟩,
  ⟨some [f, t, f, t], .call f (.c (.func 63 [])) [(.s [f, f, f, t]), (.s [t, f, f, t])], none⟩,
  ⟨some [t, t, t, f], .move (.s [f, t, f, t]), none⟩,
  ⟨some [t, t, f, t], .extract 0 (.s [t, t, t, f]), none⟩,
  ⟨some [f, f, t, t], .extract 1 (.s [t, t, t, f]), none⟩,
  ⟨some [t, f, f], .move (.s [t, t, f, t]), none⟩,
  ⟨some [f, t, f], .move (.s [f, f, t, t]), none⟩]) : CCode)) false true
def c32_o9 : CCode := (fun (f t : Bool) => (.trim [[t, f], [t, t], [f, t, f], [t, t, f, f], [f, f, t, f]] (.ops [
  ⟨some [t, f, t, t], .move (.s [t, t]), none⟩,
  ⟨some [f, t, t, t], .move (.s [f, t, f]), none⟩,
  ⟨some [t, t, t, t], .buildSlice none 1 1 [.int .i64 0] [(0, 1, (.s [f, t, t, t]))], none⟩,
  ⟨some [f, f, f, f, f], .append none 1 8 (.s [t, f, t, t]) (.s [t, t, t, t]), none⟩,
  ⟨some [t, t], .move (.s [f, f, f, f, f]), none⟩]) : CCode)) false true
def c32_o10 : CCode := (fun (f t : Bool) => (.trim [[t, f], [t, t], [t, t, f, f], [f, f, t, f]] (.ops [
  ⟨some [t, f, f, f, f], .bin .add (.s [f, f, t, f]) (.c (.int .i64 1)), none⟩,
  ⟨some [f, f, t, f], .move (.s [t, f, f, f, f]), none⟩]) : CCode)) false true
def c32_b0 : CCode := (fun (f t : Bool) => ((.seq c32_o6
 (.seq (.cond (.s [t, f, t, f]) .skip (.exit 0))
 (.seq (.block 1 (.seq c32_o7
 (.seq c32_o8
 c32_o9)))
 c32_o10))) : CCode)) false true
def c32_l0 : CCode := (fun (f t : Bool) => (.loop [[t, f], [t, t], [t, t, f, f], [f, f, t, f]] c32_b0 : CCode)) false true
def c32_o11 : CCode := (fun (f t : Bool) => (.trim [[t, t]] (.ops [
  ⟨some [f, t, f, f, f], .move (.s [t, t]), none⟩,
  ⟨some [t], .move (.s [f, t, f, f, f]), none⟩,
  ⟨some [f, f], .move (.c (.int .i64 0)), none⟩]) : CCode)) false true
def c32 : CFunc := (fun (f t : Bool) => ({ params := [[]], results := [.slot [t], .slot [f, f]], shared := f, body := (.seq c32_o0
 (.seq c32_o1
 (.seq (.seq c32_o2
 (.cond (.s [t, f, f, f]) (.seq c32_o3
 .ret) .skip))
 (.seq c32_o4
 (.seq (.seq c32_o5
 (.block 0 c32_l0))
 (.seq c32_o11
 .ret)))))) } : CFunc)) false true
def c33_o0 : CCode := (fun (f t : Bool) => (.trim [[]] (.ops [
  ⟨some [t], .move (.c (.nils)), none⟩,
  ⟨some [f, f], .move (.c (.int .i64 0)), none⟩]) : CCode)) false true
def c33_o1 : CCode := (fun (f t : Bool) => (.trim [[]] (.ops [
  ⟨some [f, t, f, f], .move (.s []), none⟩,
  ⟨some [t, t, f, f], .call f (.c (.func 54 [])) [(.s [f, t, f, f])], none⟩,
  ⟨some [t, f, f, f], .move (.s [t, t, f, f]), none⟩,
  ⟨some [f, f, t, f], .extract 0 (.s [t, f, f, f]), none⟩,
  ⟨some [t, f, t, f], .extract 1 (.s [t, f, f, f]), none⟩,
  ⟨some [t, f], .alloc none (List.replicate 65 (.int .i64 0)), none⟩,
  ⟨none, .store 65 (.s [t, f]) (.s [f, f, t, f]), none⟩,
  ⟨some [f, t], .move (.s [t, f, t, f]), none⟩]) : CCode)) false true
def c33_o2 : CCode := (fun (f t : Bool) => (.trim [[t, f], [f, t]] (.ops [
  ⟨some [f, t, t, f], .move (.s [f, t]), none⟩,
  ⟨some [t, t, t, f], .un .not (.s [f, t, t, f]), none⟩]) : CCode)) false true
def c33_o3 : CCode := (fun (f t : Bool) => (.trim [] (.ops [
  ⟨some [t], .move (.c (.nils)), none⟩,
  ⟨some [f, f], .move (.c (.int .i64 2)), none⟩]) : CCode)) false true
def c33_o4 : CCode := (fun (f t : Bool) => (.trim [[t, f]] (.ops [
  ⟨some [f, f, f, t], .fieldAddr 0 (.s [t, f]), none⟩,
  ⟨some [t, f, f, t], .load none (.s [f, f, f, t]), none⟩,
  ⟨some [f, t, f, t], .bin .add (.s [t, f, f, t]) (.c (.int .i64 1)), none⟩,
  ⟨some [t, t, f, t], .makeSlice none 1 8 [.int .i64 0] (.s [f, t, f, t]), none⟩,
  ⟨some [t, t], .move (.s [t, t, f, t]), none⟩]) : CCode)) false true
def c33_o5 : CCode := (fun (f t : Bool) => (.trim [[t, f], [t, t]] (.ops [
  ⟨some [f, f, t, t], .move (.s [t, t]), none⟩,
  ⟨some [t, f, t, t], .fieldAddr 0 (.s [t, f]), none⟩,
  ⟨some [f, t, t, t], .load none (.s [t, f, t, t]), none⟩,
  ⟨some [t, t, t, t], .idxSl 1 (.s [f, f, t, t]) (.s [f, t, t, t]), none⟩,
  ⟨none, .store 1 (.s [t, t, t, t]) (.c (.int .i64 1)), none⟩]) : CCode)) false true
def c33_o6 : CCode := (fun (f t : Bool) => (.trim [[t, f], [t, t]] (.ops [
  ⟨some [f, f, f], .alloc none (List.replicate 64 (.int .i64 0)), none⟩]) : CCode)) false true
def c33_o7 : CCode := (fun (f t : Bool) => (.trim [[t, f], [t, t], [f, f, f]] (.ops [
  ⟨some [t, f, f], .move (.c (.int .i64 1)), none⟩]) : CCode)) false true
def c33_o8 : CCode := (fun (f t : Bool) => (.trim [[t, f], [t, t], [f, f, f], [t, f, f]] (.ops [
  ⟨some [f, f, f, f, f], .move (.s [t, f, f]), none⟩,
  ⟨some [t, f, f, f, f], .fieldAddr 0 (.s [t, f]), none⟩,
  ⟨some [f, t, f, f, f], .load none (.s [t, f, f, f, f]), none⟩,
  ⟨some [t, t, f, f, f], .bin .leq (.s [f, f, f, f, f]) (.s [f, t, f, f, f]), none⟩]) : CCode)) false true
def c33_o9 : CCode := (fun (f t : Bool) => (.trim [[t, f], [t, t], [f, f, f], [t, f, f]] (.ops [
  ⟨some [f, t, f], .alloc none (List.replicate 64 (.int .i64 0)), none⟩]) : CCode)) false true
def c33_o10 : CCode := (fun (f t : Bool) => (.trim [[t, f], [t, t], [f, f, f], [t, f, f], [f, t, f]] (.ops [
  ⟨some [f, t, t, f, f], .fieldAddr 0 (.s [t, f]), none⟩,
  ⟨some [t, t, t, f, f], .load none (.s [f, t, t, f, f]), none⟩,
  ⟨some [f, f, f, t, f], .move (.c (.int .i64 0)), none⟩]) : CCode)) false true
def c33_o11 : CCode := (fun (f t : Bool) => (.trim [[t, f], [t, t], [f, f, f], [t, f, f], [f, t, f], [t, t, t, f, f], [f, f, f, t, f]] (.ops [
  ⟨some [t, f, f, t, f], .bin .lss (.s [f, f, f, t, f]) (.s [t, t, t, f, f]), none⟩]) : CCode)) false true
def c33_o12 : CCode := (fun (f t : Bool) => (.trim [[t, f], [t, t], [f, f, f], [t, f, f], [f, t, f], [t, t, t, f, f], [f, f, f, t, f]] (.ops [
  ⟨some [f, t, f, t, f], .move (.s [f, f, f, t, f]), none⟩,
  ⟨some [t, t, f], .move (.s [f, t, f, t, f]), none⟩]) : CCode)) false true
def c33_o13 : CCode := (fun (f t : Bool) => (.trim [[t, f], [t, t], [f, f, f], [t, f, f], [f, t, f], [t, t, f], [t, t, t, f, f], [f, f, f, t, f]] (.ops [
  ⟨some [t, t, f, t, f], .fieldAddr 0 (.s [t, f]), none⟩,
  ⟨some [f, f, t, t, f], .load none (.s [t, t, f, t, f]), none⟩,
  ⟨some [t, f, t, t, f], .move (.c (.int .i64 0)), none⟩]) : CCode)) false true
def c33_o14 : CCode := (fun (f t : Bool) => (.trim [[t, f], [t, t], [f, f, f], [t, f, f], [f, t, f], [t, t, f], [t, t, t, f, f], [f, f, f, t, f], [f, f, t, t, f], [t, f, t, t, f]] (.ops [
  ⟨some [f, t, t, t, f], .bin .lss (.s [t, f, t, t, f]) (.s [f, f, t, t, f]), none⟩]) : CCode)) false true
def c33_o15 : CCode := (fun (f t : Bool) => (.trim [[t, f], [t, t], [f, f, f], [t, f, f], [f, t, f], [t, t, f], [t, t, t, f, f], [f, f, f, t, f], [f, f, t, t, f], [t, f, t, t, f]] (.ops [
  ⟨some [t, t, t, t, f], .move (.s [t, f, t, t, f]), none⟩,
  ⟨some [f, f, t], .move (.s [t, t, t, t, f]), none⟩]) : CCode)) false true
def c33_o16 : CCode := (fun (f t : Bool) => (.trim [[t, f], [t, t], [f, f, f], [t, f, f], [f, t, f], [t, t, f], [f, f, t], [t, t, t, f, f], [f, f, f, t, f], [f, f, t, t, f], [t, f, t, t, f]] (.ops [
  ⟨some [f, f, f, f, t], .fieldAddr 0 (.s [t, f]), none⟩,
  ⟨some [t, f, f, f, t], .load none (.s [f, f, f, f, t]), none⟩,
  ⟨some [f, t, f, f, t], .move (.c (.int .i64 0)), none⟩]) : CCode)) false true
def c33_o17 : CCode := (fun (f t : Bool) => (.trim [[t, f], [t, t], [f, f, f], [t, f, f], [f, t, f], [t, t, f], [f, f, t], [t, t, t, f, f], [f, f, f, t, f], [f, f, t, t, f], [t, f, t, t, f], [t, f, f, f, t], [f, t, f, f, t]] (.ops [
  ⟨some [t, t, f, f, t], .bin .lss (.s [f, t, f, f, t]) (.s [t, f, f, f, t]), none⟩]) : CCode)) false true
def c33_o18 : CCode := (fun (f t : Bool) => (.trim [[t, f], [t, t], [f, f, f], [t, f, f], [f, t, f], [t, t, f], [f, f, t], [t, t, t, f, f], [f, f, f, t, f], [f, f, t, t, f], [t, f, t, t, f], [t, f, f, f, t], [f, t, f, f, t]] (.ops [
  ⟨some [f, f, t, f, t], .move (.s [f, t, f, f, t]), none⟩,
  ⟨some [t, f, t], .move (.s [f, f, t, f, t]), none⟩]) : CCode)) false true
def c33_o19 : CCode := (fun (f t : Bool) => (.trim [[t, f], [t, t], [f, f, f], [t, f, f], [f, t, f], [t, t, f], [f, f, t], [t, f, t], [t, t, t, f, f], [f, f, f, t, f], [f, f, t, t, f], [t, f, t, t, f], [t, f, f, f, t], [f, t, f, f, t]] (.draw 0 [
  ⟨some [t, f, t, f, t], .move (.s [t, t, f]), none⟩,
  ⟨some [f, t, t, f, t], .move (.s [f, f, t]), none⟩,
  ⟨some [t, t, t, f, t], .idxArr 8 8 (.s [f, t, f]) (.s [t, f, t, f, t]), none⟩,
  ⟨some [f, f, f, t, t], .idxArr 8 1 (.s [t, t, t, f, t]) (.s [f, t, t, f, t]), none⟩,
  ⟨some [t, f, f, t, t], .load none (.s [f, f, f, t, t]), none⟩,
  ⟨some [f, t, f, t, t], .move (.s [t, t, f]), none⟩,
  ⟨some [t, t, f, t, t], .move (.s [t, f, t]), none⟩,
  ⟨some [f, f, t, t, t], .fieldAddr 1 (.s [t, f]), none⟩,
  ⟨some [t, f, t, t, t], .idxArr 8 8 (.s [f, f, t, t, t]) (.s [f, t, f, t, t]), none⟩,
  ⟨some [f, t, t, t, t], .idxArr 8 1 (.s [t, f, t, t, t]) (.s [t, t, f, t, t]), none⟩,
  ⟨some [t, t, t, t, t], .load none (.s [f, t, t, t, t]), none⟩,
  ⟨some [f, f, f, f, f, f], .move (.s [t, f, t]), none⟩,
  ⟨some [t, f, f, f, f, f], .move (.s [f, f, t]), none⟩,
  ⟨some [f, t, f, f, f, f], .idxArr 8 8 (.s [f, f, f]) (.s [f, f, f, f, f, f]), none⟩,
  ⟨some [t, t, f, f, f, f], .idxArr 8 1 (.s [f, t, f, f, f, f]) (.s [t, f, f, f, f, f]), none⟩,
  ⟨some [f, f, t, f, f, f], .load none (.s [t, t, f, f, f, f]), none⟩,
  ⟨some [t, f, t, f, f, f], .bin .mul (.s [t, t, t, t, t]) (.s [f, f, t, f, f, f]), none⟩,
  ⟨some [f, t, t, f, f, f], .bin .add (.s [t, f, f, t, t]) (.s [t, f, t, f, f, f]), none⟩,
  ⟨some [t, t, t, f, f, f], .idxArr 8 8 (.s [f, t, f]) (.s [t, f, t, f, t]), none⟩,
  ⟨some [f, f, f, t, f, f], .idxArr 8 1 (.s [t, t, t, f, f, f]) (.s [f, t, t, f, t]), none⟩,
  ⟨none, .store 1 (.s [f, f, f, t, f, f]) (.s [f, t, t, f, f, f]), none⟩]
  [(4, 10), (4, 15), (10, 15)] [[], [], [0], [0, 1, 2], [0, 1, 2, 3], [], [], [], [5, 7], [5, 6, 7, 8], [5, 6, 7, 8, 9], [], [], [11], [11, 12, 13], [11, 12, 13, 14], [5, 6, 7, 8, 9, 10, 11, 12, 13, 14, 15], (r 17), [0], (r 19), (r 20)]) : CCode)) false true
def c33_o20 : CCode := (fun (f t : Bool) => (.trim [[t, f], [t, t], [f, f, f], [t, f, f], [f, t, f], [t, t, f], [f, f, t], [t, t, t, f, f], [f, f, f, t, f], [f, f, t, t, f], [t, f, t, t, f], [t, f, f, f, t], [f, t, f, f, t]] (.ops [
  ⟨some [t, f, f, t, f, f], .bin .add (.s [f, t, f, f, t]) (.c (.int .i64 1)), none⟩,
  ⟨some [f, t, f, f, t], .move (.s [t, f, f, t, f, f]), none⟩]) : CCode)) false true
def c33_b0 : CCode := (fun (f t : Bool) => ((.seq c33_o17
 (.seq (.cond (.s [t, t, f, f, t]) .skip (.exit 6))
 (.seq (.block 7 (.seq c33_o18
 c33_o19))
 c33_o20))) : CCode)) false true
def c33_l0 : CCode := (fun (f t : Bool) => (.loop [[t, f], [t, t], [f, f, f], [t, f, f], [f, t, f], [t, t, f], [f, f, t], [t, t, t, f, f], [f, f, f, t, f], [f, f, t, t, f], [t, f, t, t, f], [t, f, f, f, t], [f, t, f, f, t]] c33_b0 : CCode)) false true
def c33_o21 : CCode := (fun (f t : Bool) => (.trim [[t, f], [t, t], [f, f, f], [t, f, f], [f, t, f], [t, t, f], [t, t, t, f, f], [f, f, f, t, f], [f, f, t, t, f], [t, f, t, t, f]] (.ops [
  ⟨some [f, t, f, t, f, f], .bin .add (.s [t, f, t, t, f]) (.c (.int .i64 1)), none⟩,
  ⟨some [t, f, t, t, f], .move (.s [f, t, f, t, f, f]), none⟩]) : CCode)) false true
def c33_b1 : CCode := (fun (f t : Bool) => ((.seq c33_o14
 (.seq (.cond (.s [f, t, t, t, f]) .skip (.exit 4))
 (.seq (.block 5 (.seq c33_o15
 (.seq c33_o16
 (.block 6 c33_l0))))
 c33_o21))) : CCode)) false true
def c33_l1 : CCode := (fun (f t : Bool) => (.loop [[t, f], [t, t], [f, f, f], [t, f, f], [f, t, f], [t, t, f], [t, t, t, f, f], [f, f, f, t, f], [f, f, t, t, f], [t, f, t, t, f]] c33_b1 : CCode)) false true
def c33_o22 : CCode := (fun (f t : Bool) => (.trim [[t, f], [t, t], [f, f, f], [t, f, f], [f, t, f], [t, t, f], [t, t, t, f, f], [f, f, f, t, f]] (.draw 0 [
  ⟨some [t, t, f, t, f, f], .move (.s [t, t, f]), none⟩,
  ⟨some [f, f, t, t, f, f], .move (.s [t, t, f]), none⟩,
  ⟨some [t, f, t, t, f, f], .idxArr 8 8 (.s [f, t, f]) (.s [t, t, f, t, f, f]), none⟩,
  ⟨some [f, t, t, t, f, f], .idxArr 8 1 (.s [t, f, t, t, f, f]) (.s [f, f, t, t, f, f]), none⟩,
  ⟨some [t, t, t, t, f, f], .load none (.s [f, t, t, t, f, f]), none⟩,
  ⟨some [f, f, f, f, t, f], .move (.s [t, t]), none⟩,
  ⟨some [t, f, f, f, t, f], .fieldAddr 0 (.s [t, f]), none⟩,
  ⟨some [f, t, f, f, t, f], .load none (.s [t, f, f, f, t, f]), none⟩,
  ⟨some [t, t, f, f, t, f], .move (.s [t, f, f]), none⟩,
  ⟨some [f, f, t, f, t, f], .bin .sub (.s [f, t, f, f, t, f]) (.s [t, t, f, f, t, f]), none⟩,
  ⟨some [t, f, t, f, t, f], .bin .add (.s [f, f, t, f, t, f]) (.c (.int .i64 1)), none⟩,
  ⟨some [f, t, t, f, t, f], .idxSl 1 (.s [f, f, f, f, t, f]) (.s [t, f, t, f, t, f]), none⟩,
  ⟨some [t, t, t, f, t, f], .load none (.s [f, t, t, f, t, f]), none⟩,
  ⟨some [f, f, f, t, t, f], .bin .add (.s [t, t, t, t, f, f]) (.s [t, t, t, f, t, f]), none⟩,
  ⟨some [t, f, f, t, t, f], .idxArr 8 8 (.s [f, t, f]) (.s [t, t, f, t, f, f]), none⟩,
  ⟨some [f, t, f, t, t, f], .idxArr 8 1 (.s [t, f, f, t, t, f]) (.s [f, f, t, t, f, f]), none⟩,
  ⟨none, .store 1 (.s [f, t, f, t, t, f]) (.s [f, f, f, t, t, f]), none⟩]
  [(4, 7), (4, 12)] [[], [], [0], [0, 1, 2], [0, 1, 2, 3], [], [], [6], [], [6, 7, 8], [6, 7, 8, 9], [5, 6, 7, 8, 9, 10], [5, 6, 7, 8, 9, 10, 11], (r 13), [0], (r 15), (r 16)]) : CCode)) false true
def c33_o23 : CCode := (fun (f t : Bool) => (.trim [[t, f], [t, t], [f, f, f], [t, f, f], [f, t, f], [t, t, t, f, f], [f, f, f, t, f]] (.ops [
  ⟨some [t, t, f, t, t, f], .bin .add (.s [f, f, f, t, f]) (.c (.int .i64 1)), none⟩,
  ⟨some [f, f, f, t, f], .move (.s [t, t, f, t, t, f]), none⟩]) : CCode)) false true
def c33_b2 : CCode := (fun (f t : Bool) => ((.seq c33_o11
 (.seq (.cond (.s [t, f, f, t, f]) .skip (.exit 2))
 (.seq (.block 3 (.seq c33_o12
 (.seq (.seq c33_o13
 (.block 4 c33_l1))
 c33_o22)))
 c33_o23))) : CCode)) false true
def c33_l2 : CCode := (fun (f t : Bool) => (.loop [[t, f], [t, t], [f, f, f], [t, f, f], [f, t, f], [t, t, t, f, f], [f, f, f, t, f]] c33_b2 : CCode)) false true
def c33_o24 : CCode := (fun (f t : Bool) => (.trim [[t, f], [t, t], [f, f, f], [t, f, f], [f, t, f]] (.ops [
  ⟨some [f, f, t, t, t, f], .load (some 64) (.s [f, t, f]), none⟩,
  ⟨none, .store 64 (.s [f, f, f]) (.s [f, f, t, t, t, f]), none⟩]) : CCode)) false true
def c33_o25 : CCode := (fun (f t : Bool) => (.trim [[t, f], [t, t], [f, f, f], [t, f, f]] (.ops [
  ⟨some [f, t, t], .move (.c (.int .i64 0)), none⟩]) : CCode)) false true
def c33_o26 : CCode := (fun (f t : Bool) => (.trim [[t, f], [t, t], [f, f, f], [t, f, f], [f, t, t]] (.ops [
  ⟨some [t, f, t, t, t, f], .fieldAddr 0 (.s [t, f]), none⟩,
  ⟨some [f, t, t, t, t, f], .load none (.s [t, f, t, t, t, f]), none⟩,
  ⟨some [t, t, t, t, t, f], .move (.c (.int .i64 0)), none⟩]) : CCode)) false true
def c33_o27 : CCode := (fun (f t : Bool) => (.trim [[t, f], [t, t], [f, f, f], [t, f, f], [f, t, t], [f, t, t, t, t, f], [t, t, t, t, t, f]] (.ops [
  ⟨some [f, f, f, f, f, t], .bin .lss (.s [t, t, t, t, t, f]) (.s [f, t, t, t, t, f]), none⟩]) : CCode)) false true
def c33_o28 : CCode := (fun (f t : Bool) => (.trim [[t, f], [t, t], [f, f, f], [t, f, f], [f, t, t], [f, t, t, t, t, f], [t, t, t, t, t, f]] (.ops [
  ⟨some [t, f, f, f, f, t], .move (.s [t, t, t, t, t, f]), none⟩,
  ⟨some [t, t, t], .move (.s [t, f, f, f, f, t]), none⟩]) : CCode)) false true
def c33_o29 : CCode := (fun (f t : Bool) => (.trim [[t, f], [t, t], [f, f, f], [t, f, f], [f, t, t], [t, t, t], [f, t, t, t, t, f], [t, t, t, t, t, f]] (.ops [
  ⟨some [f, t, f, f, f, t], .fieldAddr 0 (.s [t, f]), none⟩,
  ⟨some [t, t, f, f, f, t], .load none (.s [f, t, f, f, f, t]), none⟩,
  ⟨some [f, f, t, f, f, t], .move (.c (.int .i64 0)), none⟩]) : CCode)) false true
def c33_o30 : CCode := (fun (f t : Bool) => (.trim [[t, f], [t, t], [f, f, f], [t, f, f], [f, t, t], [t, t, t], [f, t, t, t, t, f], [t, t, t, t, t, f], [t, t, f, f, f, t], [f, f, t, f, f, t]] (.ops [
  ⟨some [t, f, t, f, f, t], .bin .lss (.s [f, f, t, f, f, t]) (.s [t, t, f, f, f, t]), none⟩]) : CCode)) false true
def c33_o31 : CCode := (fun (f t : Bool) => (.trim [[t, f], [t, t], [f, f, f], [t, f, f], [f, t, t], [t, t, t], [f, t, t, t, t, f], [t, t, t, t, t, f], [t, t, f, f, f, t], [f, f, t, f, f, t]] (.ops [
  ⟨some [f, t, t, f, f, t], .move (.s [f, f, t, f, f, t]), none⟩,
  ⟨some [f, f, f, f], .move (.s [f, t, t, f, f, t]), none⟩]) : CCode)) false true
def c33_o32 : CCode := (fun (f t : Bool) => (.trim [[t, f], [t, t], [f, f, f], [t, f, f], [f, t, t], [t, t, t], [f, f, f, f], [f, t, t, t, t, f], [t, t, t, t, t, f], [t, t, f, f, f, t], [f, f, t, f, f, t]] (.draw 0 [
  ⟨some [t, t, t, f, f, t], .move (.s [f, t, t]), none⟩,
  ⟨some [f, f, f, t, f, t], .move (.s [t, t, t]), none⟩,
  ⟨some [t, f, f, t, f, t], .move (.s [f, f, f, f]), none⟩,
  ⟨some [f, t, f, t, f, t], .fieldAddr 1 (.s [t, f]), none⟩,
  ⟨some [t, t, f, t, f, t], .idxArr 8 8 (.s [f, t, f, t, f, t]) (.s [f, f, f, t, f, t]), none⟩,
  ⟨some [f, f, t, t, f, t], .idxArr 8 1 (.s [t, t, f, t, f, t]) (.s [t, f, f, t, f, t]), none⟩,
  ⟨some [t, f, t, t, f, t], .load none (.s [f, f, t, t, f, t]), none⟩,
  ⟨some [f, t, t, t, f, t], .move (.s [f, f, f, f]), none⟩,
  ⟨some [t, t, t, t, f, t], .move (.s [t, t, t]), none⟩,
  ⟨some [f, f, f, f, t, t], .idxArr 8 8 (.s [f, f, f]) (.s [f, t, t, t, f, t]), none⟩,
  ⟨some [t, f, f, f, t, t], .idxArr 8 1 (.s [f, f, f, f, t, t]) (.s [t, t, t, t, f, t]), none⟩,
  ⟨some [f, t, f, f, t, t], .load none (.s [t, f, f, f, t, t]), none⟩,
  ⟨some [t, t, f, f, t, t], .bin .mul (.s [t, f, t, t, f, t]) (.s [f, t, f, f, t, t]), none⟩,
  ⟨some [f, f, t, f, t, t], .bin .add (.s [t, t, t, f, f, t]) (.s [t, t, f, f, t, t]), none⟩,
  ⟨some [f, t, t], .move (.s [f, f, t, f, t, t]), none⟩]
  [(6, 11)] [[], [], [], [], [1, 3], [1, 2, 3, 4], [1, 2, 3, 4, 5], [], [], [7], [7, 8, 9], [7, 8, 9, 10], [1, 2, 3, 4, 5, 6, 7, 8, 9, 10, 11], (r 13), (r 14)]) : CCode)) false true
def c33_o33 : CCode := (fun (f t : Bool) => (.trim [[t, f], [t, t], [f, f, f], [t, f, f], [f, t, t], [t, t, t], [f, t, t, t, t, f], [t, t, t, t, t, f], [t, t, f, f, f, t], [f, f, t, f, f, t]] (.ops [
  ⟨some [t, f, t, f, t, t], .bin .add (.s [f, f, t, f, f, t]) (.c (.int .i64 1)), none⟩,
  ⟨some [f, f, t, f, f, t], .move (.s [t, f, t, f, t, t]), none⟩]) : CCode)) false true
def c33_b3 : CCode := (fun (f t : Bool) => ((.seq c33_o30
 (.seq (.cond (.s [t, f, t, f, f, t]) .skip (.exit 10))
 (.seq (.block 11 (.seq c33_o31
 c33_o32))
 c33_o33))) : CCode)) false true
def c33_l3 : CCode := (fun (f t : Bool) => (.loop [[t, f], [t, t], [f, f, f], [t, f, f], [f, t, t], [t, t, t], [f, t, t, t, t, f], [t, t, t, t, t, f], [t, t, f, f, f, t], [f, f, t, f, f, t]] c33_b3 : CCode)) false true
def c33_o34 : CCode := (fun (f t : Bool) => (.trim [[t, f], [t, t], [f, f, f], [t, f, f], [f, t, t], [f, t, t, t, t, f], [t, t, t, t, t, f]] (.ops [
  ⟨some [f, t, t, f, t, t], .bin .add (.s [t, t, t, t, t, f]) (.c (.int .i64 1)), none⟩,
  ⟨some [t, t, t, t, t, f], .move (.s [f, t, t, f, t, t]), none⟩]) : CCode)) false true
def c33_b4 : CCode := (fun (f t : Bool) => ((.seq c33_o27
 (.seq (.cond (.s [f, f, f, f, f, t]) .skip (.exit 8))
 (.seq (.block 9 (.seq c33_o28
 (.seq c33_o29
 (.block 10 c33_l3))))
 c33_o34))) : CCode)) false true
def c33_l4 : CCode := (fun (f t : Bool) => (.loop [[t, f], [t, t], [f, f, f], [t, f, f], [f, t, t], [f, t, t, t, t, f], [t, t, t, t, t, f]] c33_b4 : CCode)) false true
def c33_o35 : CCode := (fun (f t : Bool) => (.trim [[t, f], [t, t], [f, f, f], [t, f, f], [f, t, t]] (.draw 0 [
  ⟨some [t, t, t, f, t, t], .move (.s [t, t]), none⟩,
  ⟨some [f, f, f, t, t, t], .fieldAddr 0 (.s [t, f]), none⟩,
  ⟨some [t, f, f, t, t, t], .load none (.s [f, f, f, t, t, t]), none⟩,
  ⟨some [f, t, f, t, t, t], .move (.s [t, f, f]), none⟩,
  ⟨some [t, t, f, t, t, t], .bin .sub (.s [t, f, f, t, t, t]) (.s [f, t, f, t, t, t]), none⟩,
  ⟨some [f, f, t, t, t, t], .move (.s [f, t, t]), none⟩,
  ⟨some [t, f, t, t, t, t], .un .neg (.s [f, f, t, t, t, t]), none⟩,
  ⟨some [f, t, t, t, t, t], .move (.s [t, f, f]), none⟩,
  ⟨some [t, t, t, t, t, t], .bin .quo (.s [t, f, t, t, t, t]) (.s [f, t, t, t, t, t]), none⟩,
  ⟨some [f, f, f, f, f, f, f], .idxSl 1 (.s [t, t, t, f, t, t]) (.s [t, t, f, t, t, t]), none⟩,
  ⟨none, .store 1 (.s [f, f, f, f, f, f, f]) (.s [t, t, t, t, t, t]), none⟩]
  [] [[], [], [1], [], [1, 2, 3], [], [5], [], [5, 6, 7], (r 9), (r 10)]) : CCode)) false true
def c33_o36 : CCode := (fun (f t : Bool) => (.trim [[t, f], [t, t], [f, f, f], [t, f, f]] (.ops [
  ⟨some [f, f, t, f, f], .move (.s [t, f, f]), none⟩,
  ⟨some [t, f, t, f, f], .bin .add (.s [f, f, t, f, f]) (.c (.int .i64 1)), none⟩,
  ⟨some [t, f, f], .move (.s [t, f, t, f, f]), none⟩]) : CCode)) false true
def c33_b5 : CCode := (fun (f t : Bool) => ((.seq (.seq c33_o8
 (.cond (.s [t, t, f, f, f]) .skip (.exit 0)))
 (.seq (.block 1 (.seq c33_o9
 (.seq (.seq c33_o10
 (.block 2 c33_l2))
 (.seq c33_o24
 (.seq c33_o25
 (.seq (.seq c33_o26
 (.block 8 c33_l4))
 c33_o35))))))
 c33_o36)) : CCode)) false true
def c33_l5 : CCode := (fun (f t : Bool) => (.loop [[t, f], [t, t], [f, f, f], [t, f, f]] c33_b5 : CCode)) false true
def c33_o37 : CCode := (fun (f t : Bool) => (.trim [[t, t]] (.ops [
  ⟨some [t, f, f, f, f, f, f], .move (.s [t, t]), none⟩,
  ⟨some [t], .move (.s [t, f, f, f, f, f, f]), none⟩,
  ⟨some [f, f], .move (.c (.int .i64 0)), none⟩]) : CCode)) false true
def c33 : CFunc := (fun (f t : Bool) => ({ params := [[]], results := [.slot [t], .slot [f, f]], shared := f, body := (.seq c33_o0
 (.seq c33_o1
 (.seq (.seq c33_o2
 (.cond (.s [t, t, t, f]) (.seq c33_o3
 .ret) .skip))
 (.seq c33_o4
 (.seq c33_o5
 (.seq c33_o6
 (.seq (.seq c33_o7
 (.block 0 c33_l5))
 (.seq c33_o37
 .ret)))))))) } : CFunc)) false true
def c34_o0 : CCode := (fun (f t : Bool) => (.trim [[]] (.ops [
  ⟨some [t], .move (.c (.int .i64 0)), none⟩,
  ⟨some [f, f], .move (.c (.int .i64 0)), none⟩]) : CCode)) false true
def c34_o1 : CCode := (fun (f t : Bool) => (.trim [[]] (.ops [
  ⟨some [t, f, t], .move (.s []), none⟩,
  ⟨some [f, t, t], .call f (.c (.func 54 [])) [(.s [t, f, t])], none⟩,
  ⟨some [f, f, t], .move (.s [f, t, t]), none⟩,
  ⟨some [t, t, t], .extract 0 (.s [f, f, t]), none⟩,
  ⟨some [f, f, f, f], .extract 1 (.s [f, f, t]), none⟩,
  ⟨some [t, f], .alloc none (List.replicate 65 (.int .i64 0)), none⟩,
  ⟨none, .store 65 (.s [t, f]) (.s [t, t, t]), none⟩,
  ⟨some [f, t], .move (.s [f, f, f, f]), none⟩]) : CCode)) false true
def c34_o2 : CCode := (fun (f t : Bool) => (.trim [[t, f], [f, t]] (.ops [
  ⟨some [t, f, f, f], .move (.s [f, t]), none⟩,
  ⟨some [f, t, f, f], .un .not (.s [t, f, f, f]), none⟩]) : CCode)) false true
def c34_o3 : CCode := (fun (f t : Bool) => (.trim [] (.ops [
  ⟨some [t], .move (.c (.int .i64 0)), none⟩,
  ⟨some [f, f], .move (.c (.int .i64 2)), none⟩]) : CCode)) false true
def c34_o4 : CCode := (fun (f t : Bool) => (.trim [[t, f]] (.ops [
  ⟨some [t, t], .alloc none (List.replicate 64 (.bool f)), none⟩]) : CCode)) false true
def c34_o5 : CCode := (fun (f t : Bool) => (.trim [[t, f], [t, t]] (.ops [
  ⟨some [t, t, f, f], .fieldAddr 0 (.s [t, f]), none⟩,
  ⟨some [f, f, t, f], .load none (.s [t, t, f, f]), none⟩,
  ⟨some [t, f, t, f], .move (.c (.int .i64 0)), none⟩]) : CCode)) false true
def c34_o6 : CCode := (fun (f t : Bool) => (.trim [[t, f], [t, t], [f, f, t, f], [t, f, t, f]] (.ops [
  ⟨some [f, t, t, f], .bin .lss (.s [t, f, t, f]) (.s [f, f, t, f]), none⟩]) : CCode)) false true
def c34_o7 : CCode := (fun (f t : Bool) => (.trim [[t, f], [t, t], [f, f, t, f], [t, f, t, f]] (.ops [
  ⟨some [t, t, t, f], .move (.s [t, f, t, f]), none⟩,
  ⟨some [f, f, f], .move (.s [t, t, t, f]), none⟩]) : CCode)) false true
def c34_o8 : CCode := (fun (f t : Bool) => (.trim [[t, f], [t, t], [f, f, f], [f, f, t, f], [t, f, t, f]] (.ops [
  ⟨some [f, f, f, t], .fieldAddr 0 (.s [t, f]), none⟩,
  ⟨some [t, f, f, t], .load none (.s [f, f, f, t]), none⟩,
  ⟨some [f, t, f, t], .move (.c (.int .i64 0)), none⟩]) : CCode)) false true
def c34_o9 : CCode := (fun (f t : Bool) => (.trim [[t, f], [t, t], [f, f, f], [f, f, t, f], [t, f, t, f], [t, f, f, t], [f, t, f, t]] (.ops [
  ⟨some [t, t, f, t], .bin .lss (.s [f, t, f, t]) (.s [t, f, f, t]), none⟩]) : CCode)) false true
def c34_o10 : CCode := (fun (f t : Bool) => (.trim [[t, f], [t, t], [f, f, f], [f, f, t, f], [t, f, t, f], [t, f, f, t], [f, t, f, t]] (.ops [
  ⟨some [f, f, t, t], .move (.s [f, t, f, t]), none⟩,
  ⟨some [t, f, f], .move (.s [f, f, t, t]), none⟩]) : CCode)) false true
def c34_o11 : CCode := (fun (f t : Bool) => (.trim [[t, f], [t, t], [f, f, f], [t, f, f], [f, f, t, f], [t, f, t, f], [t, f, f, t], [f, t, f, t]] (.ops [
  ⟨some [t, f, t, t], .move (.s [f, f, f]), none⟩,
  ⟨some [f, t, t, t], .move (.s [t, f, f]), none⟩,
  ⟨some [t, t, t, t], .idxArr 8 8 (.s [t, t]) (.s [t, f, t, t]), none⟩,
  ⟨some [f, f, f, f, f], .idxArr 8 1 (.s [t, t, t, t]) (.s [f, t, t, t]), none⟩,
  ⟨none, .store 1 (.s [f, f, f, f, f]) (.c (.bool t)), none⟩]) : CCode)) false true
def c34_o12 : CCode := (fun (f t : Bool) => (.trim [[t, f], [t, t], [f, f, f], [f, f, t, f], [t, f, t, f], [t, f, f, t], [f, t, f, t]] (.ops [
  ⟨some [t, f, f, f, f], .bin .add (.s [f, t, f, t]) (.c (.int .i64 1)), none⟩,
  ⟨some [f, t, f, t], .move (.s [t, f, f, f, f]), none⟩]) : CCode)) false true
def c34_b0 : CCode := (fun (f t : Bool) => ((.seq c34_o9
 (.seq (.cond (.s [t, t, f, t]) .skip (.exit 2))
 (.seq (.block 3 (.seq c34_o10
 c34_o11))
 c34_o12))) : CCode)) false true
def c34_l0 : CCode := (fun (f t : Bool) => (.loop [[t, f], [t, t], [f, f, f], [f, f, t, f], [t, f, t, f], [t, f, f, t], [f, t, f, t]] c34_b0 : CCode)) false true
def c34_o13 : CCode := (fun (f t : Bool) => (.trim [[t, f], [t, t], [f, f, t, f], [t, f, t, f]] (.ops [
  ⟨some [f, t, f, f, f], .bin .add (.s [t, f, t, f]) (.c (.int .i64 1)), none⟩,
  ⟨some [t, f, t, f], .move (.s [f, t, f, f, f]), none⟩]) : CCode)) false true
def c34_b1 : CCode := (fun (f t : Bool) => ((.seq c34_o6
 (.seq (.cond (.s [f, t, t, f]) .skip (.exit 0))
 (.seq (.block 1 (.seq c34_o7
 (.seq c34_o8
 (.block 2 c34_l0))))
 c34_o13))) : CCode)) false true
def c34_l1 : CCode := (fun (f t : Bool) => (.loop [[t, f], [t, t], [f, f, t, f], [t, f, t, f]] c34_b1 : CCode)) false true
def c34_o14 : CCode := (fun (f t : Bool) => (.trim [[t, f], [t, t]] (.ops [
  ⟨some [t, t, f, f, f], .load (some 65) (.s [t, f]), none⟩,
  ⟨some [f, f, t, f, f], .call f (.c (.func 64 [])) [(.s [t, t, f, f, f])], none⟩,
  ⟨some [f, t, f], .alloc none (List.replicate 64 (.bool f)), none⟩,
  ⟨none, .store 64 (.s [f, t, f]) (.s [f, f, t, f, f]), none⟩]) : CCode)) false true
def c34_o15 : CCode := (fun (f t : Bool) => (.trim [[t, f], [t, t], [f, t, f]] (.ops [
  ⟨some [t, f, t, f, f], .fieldAddr 0 (.s [t, f]), none⟩,
  ⟨some [f, t, t, f, f], .load none (.s [t, f, t, f, f]), none⟩,
  ⟨some [t, t, t, f, f], .bin .sub (.s [f, t, t, f, f]) (.c (.int .i64 1)), none⟩,
  ⟨some [f, f, f, t, f], .fieldAddr 0 (.s [t, f]), none⟩,
  ⟨some [t, f, f, t, f], .load none (.s [f, f, f, t, f]), none⟩,
  ⟨some [f, t, f, t, f], .bin .sub (.s [t, f, f, t, f]) (.c (.int .i64 1)), none⟩,
  ⟨some [t, t, f, t, f], .bin .mul (.s [t, t, t, f, f]) (.s [f, t, f, t, f]), none⟩,
  ⟨some [f, f, t, t, f], .bin .add (.s [t, t, f, t, f]) (.c (.int .i64 1)), none⟩,
  ⟨some [t, f, t, t, f], .move (.c (.int .i64 0)), none⟩]) : CCode)) false true
def c34_o16 : CCode := (fun (f t : Bool) => (.trim [[t, f], [t, t], [f, t, f], [f, f, t, t, f], [t, f, t, t, f]] (.ops [
  ⟨some [f, t, t, t, f], .bin .lss (.s [t, f, t, t, f]) (.s [f, f, t, t, f]), none⟩]) : CCode)) false true
def c34_o17 : CCode := (fun (f t : Bool) => (.trim [[t, f], [t, t], [f, t, f], [f, f, t, t, f], [t, f, t, t, f]] (.ops [
  ⟨some [t, t, t, t, f], .move (.s [t, f, t, t, f]), none⟩,
  ⟨some [t, t, f], .move (.s [t, t, t, t, f]), none⟩]) : CCode)) false true
def c34_o18 : CCode := (fun (f t : Bool) => (.trim [[t, f], [t, t], [f, t, f], [t, t, f], [f, f, t, t, f], [t, f, t, t, f]] (.ops [
  ⟨some [f, f, f, f, t], .load (some 64) (.s [f, t, f]), none⟩,
  ⟨some [t, f, f, f, t], .load (some 64) (.s [t, t]), none⟩,
  ⟨some [f, t, f, f, t], .eqa (List.replicate 64 (.b)) f (.s [f, f, f, f, t]) (.s [t, f, f, f, t]), none⟩]) : CCode)) false true
def c34_o19 : CCode := (fun (f t : Bool) => (.trim [[t, t, f]] (.ops [
  ⟨some [t, t, f, f, t], .move (.s [t, t, f]), none⟩,
  ⟨some [f, f, t, f, t], .bin .add (.s [t, t, f, f, t]) (.c (.int .i64 1)), none⟩,
  ⟨some [t], .move (.s [f, f, t, f, t]), none⟩,
  ⟨some [f, f], .move (.c (.int .i64 0)), none⟩]) : CCode)) false true
def c34_o20 : CCode := (fun (f t : Bool) => (.trim [[t, f], [t, t], [f, t, f], [f, f, t, t, f], [t, f, t, t, f]] (.draw 0 [
  ⟨some [t, f, t, f, t], .load (some 64) (.s [f, t, f]), none⟩,
  ⟨some [f, t, t, f, t], .load (some 65) (.s [t, f]), none⟩,
  ⟨some [t, t, t, f, t], .call f (.c (.func 64 [])) [(.s [f, t, t, f, t])], none⟩,
  ⟨some [f, f, f, t, t], .call f (.c (.func 65 [])) [(.s [t, f, t, f, t]), (.s [t, t, t, f, t])], none⟩,
  ⟨none, .store 64 (.s [f, t, f]) (.s [f, f, f, t, t]), none⟩]
  [(0, 1), (0, 2)] [[], [], [1], [0, 1, 2], [0, 1, 2, 3]]) : CCode)) false true
def c34_o21 : CCode := (fun (f t : Bool) => (.trim [[t, f], [t, t], [f, t, f], [f, f, t, t, f], [t, f, t, t, f]] (.ops [
  ⟨some [t, f, f, t, t], .bin .add (.s [t, f, t, t, f]) (.c (.int .i64 1)), none⟩,
  ⟨some [t, f, t, t, f], .move (.s [t, f, f, t, t]), none⟩]) : CCode)) false true
def c34_b2 : CCode := (fun (f t : Bool) => ((.seq c34_o16
 (.seq (.cond (.s [f, t, t, t, f]) .skip (.exit 4))
 (.seq (.block 5 (.seq c34_o17
 (.seq (.seq c34_o18
 (.cond (.s [f, t, f, f, t]) (.seq c34_o19
 .ret) .skip))
 c34_o20)))
 c34_o21))) : CCode)) false true
def c34_l2 : CCode := (fun (f t : Bool) => (.loop [[t, f], [t, t], [f, t, f], [f, f, t, t, f], [t, f, t, t, f]] c34_b2 : CCode)) false true
def c34_o22 : CCode := (fun (f t : Bool) => (.trim [] (.ops [
  ⟨some [t], .move (.c (.int .i64 0)), none⟩,
  ⟨some [f, f], .move (.c (.int .i64 6)), none⟩]) : CCode)) false true
def c34 : CFunc := (fun (f t : Bool) => ({ params := [[]], results := [.slot [t], .slot [f, f]], shared := f, body := (.seq c34_o0
 (.seq c34_o1
 (.seq (.seq c34_o2
 (.cond (.s [f, t, f, f]) (.seq c34_o3
 .ret) .skip))
 (.seq c34_o4
 (.seq (.seq c34_o5
 (.block 0 c34_l1))
 (.seq c34_o14
 (.seq (.seq c34_o15
 (.block 4 c34_l2))
 (.seq c34_o22
 .ret)))))))) } : CFunc)) false true
def c39_o0 : CCode := (fun (f t : Bool) => (.trim [[], [f]] (.ops [
  ⟨some [t, f], .move (.c (.int .i64 0)), none⟩,
  ⟨some [f, t], .move (.c (.int .i64 0)), none⟩]) : CCode)) false true
def c39_o1 : CCode := (fun (f t : Bool) => (.trim [[], [f]] (.ops [
  ⟨some [f, t, f, f], .move (.s []), none⟩,
  ⟨some [t, t, f, f], .call f (.c (.func 54 [])) [(.s [f, t, f, f])], none⟩,
  ⟨some [t, f, f, f], .move (.s [t, t, f, f]), none⟩,
  ⟨some [f, f, t, f], .extract 0 (.s [t, f, f, f]), none⟩,
  ⟨some [t, f, t, f], .extract 1 (.s [t, f, f, f]), none⟩,
  ⟨some [t, t], .alloc none (List.replicate 65 (.int .i64 0)), none⟩,
  ⟨none, .store 65 (.s [t, t]) (.s [f, f, t, f]), none⟩,
  ⟨some [f, f, f], .move (.s [t, f, t, f]), none⟩]) : CCode)) false true
def c39_o2 : CCode := (fun (f t : Bool) => (.trim [[f], [t, t], [f, f, f]] (.ops [
  ⟨some [f, t, t, f], .move (.s [f, f, f]), none⟩,
  ⟨some [t, t, t, f], .un .not (.s [f, t, t, f]), none⟩,
  ⟨some [f, f, f, t], .move (.s [t, t, t, f]), none⟩,
  ⟨some [t, f, f, t], .move (.s [f]), some ([f, f, f, t], f)⟩,
  ⟨some [f, t, f, t], .fieldAddr 0 (.s [t, t]), some ([f, f, f, t], f)⟩,
  ⟨some [t, t, f, t], .load none (.s [f, t, f, t]), some ([f, f, f, t], f)⟩,
  ⟨some [f, f, t, t], .bin .sub (.s [t, t, f, t]) (.c (.int .i64 1)), some ([f, f, f, t], f)⟩,
  ⟨some [t, f, t, t], .call f (.c (.func 57 [])) [(.s [t, f, f, t]), (.c (.int .i64 0)), (.s [f, f, t, t])], some ([f, f, f, t], f)⟩,
  ⟨some [f, t, t, t], .un .not (.s [t, f, t, t]), some ([f, f, f, t], f)⟩,
  ⟨some [t, t, t, t], .pick (.s [f, f, f, t]) (.c (.bool t)) (.s [f, t, t, t]), none⟩]) : CCode)) false true
def c39_o3 : CCode := (fun (f t : Bool) => (.trim [] (.ops [
  ⟨some [t, f], .move (.c (.int .i64 0)), none⟩,
  ⟨some [f, t], .move (.c (.int .i64 2)), none⟩]) : CCode)) false true
def c39_o4 : CCode := (fun (f t : Bool) => (.trim [[f], [t, t]] (.draw 2 [
  ⟨some [f, f, f, f, f], .load (some 65) (.s [t, t]), none⟩,
  ⟨some [t, f, f, f, f], .call t (.c (.func 67 [])) [(.s [f, f, f, f, f])], none⟩,
  ⟨some [f, t, f, f, f], .load (some 65) (.s [t, t]), none⟩,
  ⟨some [t, t, f, f, f], .call t (.c (.func 62 [])) [(.s [f, t, f, f, f])], none⟩,
  ⟨some [t, f, f], .alloc (some 0) (List.replicate 64 (.bool f)), none⟩,
  ⟨some [f, t, f], .alloc (some 1) [.nils], none⟩,
  ⟨none, .store 64 (.s [t, f, f]) (.s [t, f, f, f, f]), none⟩,
  ⟨none, .store 1 (.s [f, t, f]) (.s [t, t, f, f, f]), none⟩]
  [(0, 2), (1, 2), (0, 4), (1, 4), (2, 4), (3, 4), (0, 5), (1, 5), (2, 5), (3, 5), (4, 5)] [[], [0], [], [0, 1, 2], [], [], (r 6), (r 7)]) : CCode)) false true
def c39_o5 : CCode := (fun (f t : Bool) => (.trim [[f], [t, t], [t, f, f], [f, t, f]] (.ops [
  ⟨some [f, f, t, f, f], .makeMap none, none⟩,
  ⟨some [t, t, f], .alloc none [.nilm], none⟩,
  ⟨none, .store 1 (.s [t, t, f]) (.s [f, f, t, f, f]), none⟩]) : CCode)) false true
def c39_o6 : CCode := (fun (f t : Bool) => (.trim [[f], [t, t], [t, f, f], [f, t, f], [t, t, f]] (.ops [
  ⟨some [t, f, t, f, f], .fieldAddr 0 (.s [t, t]), none⟩,
  ⟨some [f, t, t, f, f], .load none (.s [t, f, t, f, f]), none⟩,
  ⟨some [t, t, t, f, f], .move (.c (.int .i64 0)), none⟩]) : CCode)) false true
def c39_o7 : CCode := (fun (f t : Bool) => (.trim [[f], [t, t], [t, f, f], [f, t, f], [t, t, f], [f, t, t, f, f], [t, t, t, f, f]] (.ops [
  ⟨some [f, f, f, t, f], .bin .lss (.s [t, t, t, f, f]) (.s [f, t, t, f, f]), none⟩]) : CCode)) false true
def c39_o8 : CCode := (fun (f t : Bool) => (.trim [[f], [t, t], [t, f, f], [f, t, f], [t, t, f], [f, t, t, f, f], [t, t, t, f, f]] (.ops [
  ⟨some [t, f, f, t, f], .move (.s [t, t, t, f, f]), none⟩,
  ⟨some [f, f, t], .move (.s [t, f, f, t, f]), none⟩]) : CCode)) false true
def c39_o9 : CCode := (fun (f t : Bool) => (.trim [[f], [t, t], [t, f, f], [f, t, f], [t, t, f], [f, f, t], [f, t, t, f, f], [t, t, t, f, f]] (.ops [
  ⟨some [t, f, t], .move (.c (.int .i64 0)), none⟩]) : CCode)) false true
def c39_o10 : CCode := (fun (f t : Bool) => (.trim [[f], [t, t], [t, f, f], [f, t, f], [t, t, f], [f, f, t], [t, f, t], [f, t, t, f, f], [t, t, t, f, f]] (.ops [
  ⟨some [f, t, f, t, f], .fieldAddr 0 (.s [t, t]), none⟩,
  ⟨some [t, t, f, t, f], .load none (.s [f, t, f, t, f]), none⟩,
  ⟨some [f, f, t, t, f], .move (.c (.int .i64 0)), none⟩]) : CCode)) false true
def c39_o11 : CCode := (fun (f t : Bool) => (.trim [[f], [t, t], [t, f, f], [f, t, f], [t, t, f], [f, f, t], [t, f, t], [f, t, t, f, f], [t, t, t, f, f], [t, t, f, t, f], [f, f, t, t, f]] (.ops [
  ⟨some [t, f, t, t, f], .bin .lss (.s [f, f, t, t, f]) (.s [t, t, f, t, f]), none⟩]) : CCode)) false true
def c39_o12 : CCode := (fun (f t : Bool) => (.trim [[f], [t, t], [t, f, f], [f, t, f], [t, t, f], [f, f, t], [t, f, t], [f, t, t, f, f], [t, t, t, f, f], [t, t, f, t, f], [f, f, t, t, f]] (.ops [
  ⟨some [f, t, t, t, f], .move (.s [f, f, t, t, f]), none⟩,
  ⟨some [f, t, t], .move (.s [f, t, t, t, f]), none⟩]) : CCode)) false true
def c39_o13 : CCode := (fun (f t : Bool) => (.trim [[f], [t, t], [t, f, f], [f, t, f], [t, t, f], [f, f, t], [t, f, t], [f, t, t], [f, t, t, f, f], [t, t, t, f, f], [t, t, f, t, f], [f, f, t, t, f]] (.draw 0 [
  ⟨some [t, t, t, t, f], .load none (.s [f, t, f]), none⟩,
  ⟨some [f, f, f, f, t], .move (.s [f, f, t]), none⟩,
  ⟨some [t, f, f, f, t], .idxSl 1 (.s [t, t, t, t, f]) (.s [f, f, f, f, t]), none⟩,
  ⟨some [f, t, f, f, t], .load none (.s [t, f, f, f, t]), none⟩,
  ⟨some [t, t, f, f, t], .load none (.s [f, t, f]), none⟩,
  ⟨some [f, f, t, f, t], .move (.s [f, t, t]), none⟩,
  ⟨some [t, f, t, f, t], .idxSl 1 (.s [t, t, f, f, t]) (.s [f, f, t, f, t]), none⟩,
  ⟨some [f, t, t, f, t], .load none (.s [t, f, t, f, t]), none⟩,
  ⟨some [t, t, t, f, t], .bin .eql (.s [f, t, f, f, t]) (.s [f, t, t, f, t]), none⟩]
  [(0, 4), (3, 4), (0, 7), (3, 7)] [[], [], [0, 1], [0, 1, 2], [], [], [4, 5], [4, 5, 6], (r 8)]) : CCode)) false true
def c39_o14 : CCode := (fun (f t : Bool) => (.trim [[f], [t, t], [t, f, f], [f, t, f], [t, t, f], [f, f, t], [t, f, t], [f, t, t], [f, t, t, f, f], [t, t, t, f, f], [t, t, f, t, f], [f, f, t, t, f]] (.ops [
  ⟨some [f, f, f, t, t], .move (.s [t, f, t]), none⟩,
  ⟨some [t, f, f, t, t], .move (.s [f, f, t]), none⟩,
  ⟨some [f, t, f, t, t], .move (.s [f, t, t]), none⟩,
  ⟨some [t, t, f, t, t], .fieldAddr 1 (.s [t, t]), none⟩,
  ⟨some [f, f, t, t, t], .idxArr 8 8 (.s [t, t, f, t, t]) (.s [t, f, f, t, t]), none⟩,
  ⟨some [t, f, t, t, t], .idxArr 8 1 (.s [f, f, t, t, t]) (.s [f, t, f, t, t]), none⟩,
  ⟨some [f, t, t, t, t], .load none (.s [t, f, t, t, t]), none⟩,
  ⟨some [t, t, t, t, t], .bin .add (.s [f, f, f, t, t]) (.s [f, t, t, t, t]), none⟩,
  ⟨some [t, f, t], .move (.s [t, t, t, t, t]), none⟩]) : CCode)) false true
def c39_o15 : CCode := (fun (f t : Bool) => (.trim [[f], [t, t], [t, f, f], [f, t, f], [t, t, f], [f, f, t], [t, f, t], [f, t, t, f, f], [t, t, t, f, f], [t, t, f, t, f], [f, f, t, t, f]] (.ops [
  ⟨some [f, f, f, f, f, f], .bin .add (.s [f, f, t, t, f]) (.c (.int .i64 1)), none⟩,
  ⟨some [f, f, t, t, f], .move (.s [f, f, f, f, f, f]), none⟩]) : CCode)) false true
def c39_b0 : CCode := (fun (f t : Bool) => ((.seq c39_o11
 (.seq (.cond (.s [t, f, t, t, f]) .skip (.exit 2))
 (.seq (.block 3 (.seq c39_o12
 (.seq c39_o13
 (.cond (.s [t, t, t, f, t]) c39_o14 .skip))))
 c39_o15))) : CCode)) false true
def c39_l0 : CCode := (fun (f t : Bool) => (.loop [[f], [t, t], [t, f, f], [f, t, f], [t, t, f], [f, f, t], [t, f, t], [f, t, t, f, f], [t, t, t, f, f], [t, t, f, t, f], [f, f, t, t, f]] c39_b0 : CCode)) false true
def c39_o16 : CCode := (fun (f t : Bool) => (.trim [[f], [t, t], [t, f, f], [f, t, f], [t, t, f], [f, f, t], [t, f, t], [f, t, t, f, f], [t, t, t, f, f]] (.ops [
  ⟨some [t, f, f, f, f, f], .move (.s [f]), none⟩,
  ⟨some [f, t, f, f, f, f], .move (.s [f, f, t]), none⟩,
  ⟨some [t, t, f, f, f, f], .idxArr 8 8 (.s [t, f, f]) (.s [t, f, f, f, f, f]), none⟩,
  ⟨some [f, f, t, f, f, f], .idxArr 8 1 (.s [t, t, f, f, f, f]) (.s [f, t, f, f, f, f]), none⟩,
  ⟨some [t, f, t, f, f, f], .load none (.s [f, f, t, f, f, f]), none⟩,
  ⟨some [f, t, t, f, f, f], .move (.s [t, f, t, f, f, f]), none⟩,
  ⟨some [t, t, t, f, f, f], .move (.s [t, f, t]), some ([f, t, t, f, f, f], t)⟩,
  ⟨some [f, f, f, t, f, f], .bin .gtr (.s [t, t, t, f, f, f]) (.c (.int .i64 1)), some ([f, t, t, f, f, f], t)⟩,
  ⟨some [t, f, f, t, f, f], .pick (.s [f, t, t, f, f, f]) (.s [f, f, f, t, f, f]) (.c (.bool f)), none⟩]) : CCode)) false true
def c39_o17 : CCode := (fun (f t : Bool) => (.trim [] (.ops [
  ⟨some [t, f], .move (.c (.int .i64 (-2))), none⟩,
  ⟨some [f, t], .move (.c (.int .i64 0)), none⟩]) : CCode)) false true
def c39_o18 : CCode := (fun (f t : Bool) => (.trim [[f], [t, t], [t, f, f], [f, t, f], [t, t, f], [f, f, t], [t, f, t], [f, t, t, f, f], [t, t, t, f, f]] (.ops [
  ⟨some [f, t, f, t, f, f], .move (.s [t, f, t]), none⟩,
  ⟨some [t, t, f, t, f, f], .bin .gtr (.s [f, t, f, t, f, f]) (.c (.int .i64 0)), none⟩]) : CCode)) false true
def c39_o19 : CCode := (fun (f t : Bool) => (.trim [[f], [t, t], [t, f, f], [f, t, f], [t, t, f], [f, f, t], [f, t, t, f, f], [t, t, t, f, f]] (.draw 0 [
  ⟨some [f, f, t, t, f, f], .load none (.s [t, t, f]), none⟩,
  ⟨some [t, f, t, t, f, f], .load none (.s [f, t, f]), none⟩,
  ⟨some [f, t, t, t, f, f], .move (.s [f, f, t]), none⟩,
  ⟨some [t, t, t, t, f, f], .idxSl 1 (.s [t, f, t, t, f, f]) (.s [f, t, t, t, f, f]), none⟩,
  ⟨some [f, f, f, f, t, f], .load none (.s [t, t, t, t, f, f]), none⟩,
  ⟨none, .mapUpdate (.i .i64) (.s [f, f, t, t, f, f]) (.s [f, f, f, f, t, f]) (.c (.bool t)), none⟩]
  [(0, 1), (0, 4)] [[], [], [], [1, 2], [1, 2, 3], (r 5)]) : CCode)) false true
def c39_o20 : CCode := (fun (f t : Bool) => (.trim [[f], [t, t], [t, f, f], [f, t, f], [t, t, f], [f, t, t, f, f], [t, t, t, f, f]] (.ops [
  ⟨some [t, f, f, f, t, f], .bin .add (.s [t, t, t, f, f]) (.c (.int .i64 1)), none⟩,
  ⟨some [t, t, t, f, f], .move (.s [t, f, f, f, t, f]), none⟩]) : CCode)) false true
def c39_b1 : CCode := (fun (f t : Bool) => ((.seq c39_o7
 (.seq (.cond (.s [f, f, f, t, f]) .skip (.exit 0))
 (.seq (.block 1 (.seq c39_o8
 (.seq c39_o9
 (.seq (.seq c39_o10
 (.block 2 c39_l0))
 (.seq (.seq c39_o16
 (.cond (.s [t, f, f, t, f, f]) (.seq c39_o17
 .ret) .skip))
 (.seq c39_o18
 (.cond (.s [t, t, f, t, f, f]) c39_o19 .skip)))))))
 c39_o20))) : CCode)) false true
def c39_l1 : CCode := (fun (f t : Bool) => (.loop [[f], [t, t], [t, f, f], [f, t, f], [t, t, f], [f, t, t, f, f], [t, t, t, f, f]] c39_b1 : CCode)) false true
def c39_o21 : CCode := (fun (f t : Bool) => (.trim [[f], [t, t], [t, f, f], [f, t, f], [t, t, f]] (.ops [
  ⟨some [f, t, f, f, t, f], .makeMap none, none⟩,
  ⟨some [t, t, t], .alloc none [.nilm], none⟩,
  ⟨none, .store 1 (.s [t, t, t]) (.s [f, t, f, f, t, f]), none⟩]) : CCode)) false true
def c39_o22 : CCode := (fun (f t : Bool) => (.trim [[f], [t, t], [t, f, f], [f, t, f], [t, t, f], [t, t, t]] (.ops [
  ⟨some [f, f, f, f], .alloc none [.nilf], none⟩]) : CCode)) false true
def c39_o23 : CCode := (fun (f t : Bool) => (.trim [[f], [t, t], [t, f, f], [f, t, f], [t, t, f], [t, t, t], [f, f, f, f]] (.ops [
  ⟨some [t, t, f, f, t, f], .makeFunc 68 [(.s [t, t, t]), (.s [t, t]), (.s [f, t, f]), (.s [t, f, f]), (.s [f, f, f, f]), (.s [t, t, f])], none⟩,
  ⟨none, .store 1 (.s [f, f, f, f]) (.s [t, t, f, f, t, f]), none⟩]) : CCode)) false true
def c39_o24 : CCode := (fun (f t : Bool) => (.trim [[f], [f, t, f], [f, f, f, f]] (.draw 0 [
  ⟨some [f, f, t, f, t, f], .load none (.s [f, f, f, f]), none⟩,
  ⟨some [t, f, t, f, t, f], .load none (.s [f, t, f]), none⟩,
  ⟨some [f, t, t, f, t, f], .move (.s [f]), none⟩,
  ⟨some [t, t, t, f, t, f], .idxSl 1 (.s [t, f, t, f, t, f]) (.s [f, t, t, f, t, f]), none⟩,
  ⟨some [f, f, f, t, t, f], .load none (.s [t, t, t, f, t, f]), none⟩,
  ⟨some [t, f, f, t, t, f], .call f (.s [f, f, t, f, t, f]) [(.s [f, f, f, t, t, f])], none⟩,
  ⟨some [f, t, f, t, t, f], .bin .sub (.s [t, f, f, t, t, f]) (.c (.int .i64 1)), none⟩,
  ⟨some [t, f], .move (.s [f, t, f, t, t, f]), none⟩,
  ⟨some [f, t], .move (.c (.int .i64 0)), none⟩]
  [(0, 1), (0, 4)] [[], [], [], [1, 2], [1, 2, 3], (r 5), (r 6), (r 7), (r 8)]) : CCode)) false true
def c39 : CFunc := (fun (f t : Bool) => ({ params := [[], [f]], results := [.slot [t, f], .slot [f, t]], shared := f, body := (.seq c39_o0
 (.seq c39_o1
 (.seq (.seq c39_o2
 (.cond (.s [t, t, t, t]) (.seq c39_o3
 .ret) .skip))
 (.seq c39_o4
 (.seq c39_o5
 (.seq (.seq c39_o6
 (.block 0 c39_l1))
 (.seq c39_o21
 (.seq c39_o22
 (.seq c39_o23
 (.seq c39_o24
 .ret)))))))))) } : CFunc)) false true
def c43_o0 : CCode := (fun (f t : Bool) => (.trim [[], [f]] (.ops [
  ⟨some [t, f], .move (.c (.nils)), none⟩,
  ⟨some [f, t], .move (.c (.int .i64 0)), none⟩]) : CCode)) false true
def c43_o1 : CCode := (fun (f t : Bool) => (.trim [[], [f]] (.ops [
  ⟨some [t, t, f], .move (.s []), none⟩,
  ⟨some [f, f, t], .call f (.c (.func 54 [])) [(.s [t, t, f])], none⟩,
  ⟨some [f, t, f], .move (.s [f, f, t]), none⟩,
  ⟨some [t, f, t], .extract 0 (.s [f, t, f]), none⟩,
  ⟨some [f, t, t], .extract 1 (.s [f, t, f]), none⟩,
  ⟨some [t, t], .alloc none (List.replicate 65 (.int .i64 0)), none⟩,
  ⟨none, .store 65 (.s [t, t]) (.s [t, f, t]), none⟩,
  ⟨some [f, f, f], .move (.s [f, t, t]), none⟩]) : CCode)) false true
def c43_o2 : CCode := (fun (f t : Bool) => (.trim [[f], [t, t], [f, f, f]] (.ops [
  ⟨some [t, t, t], .move (.s [f, f, f]), none⟩,
  ⟨some [f, f, f, f], .un .not (.s [t, t, t]), none⟩,
  ⟨some [t, f, f, f], .move (.s [f, f, f, f]), none⟩,
  ⟨some [f, t, f, f], .move (.s [f]), some ([t, f, f, f], f)⟩,
  ⟨some [t, t, f, f], .call f (.c (.func 57 [])) [(.s [f, t, f, f]), (.c (.int .i64 0)), (.c (.int .i64 100))], some ([t, f, f, f], f)⟩,
  ⟨some [f, f, t, f], .un .not (.s [t, t, f, f]), some ([t, f, f, f], f)⟩,
  ⟨some [t, f, t, f], .pick (.s [t, f, f, f]) (.c (.bool t)) (.s [f, f, t, f]), none⟩]) : CCode)) false true
def c43_o3 : CCode := (fun (f t : Bool) => (.trim [] (.ops [
  ⟨some [t, f], .move (.c (.nils)), none⟩,
  ⟨some [f, t], .move (.c (.int .i64 2)), none⟩]) : CCode)) false true
def c43_o4 : CCode := (fun (f t : Bool) => (.trim [[f], [t, t]] (.ops [
  ⟨some [f, t, t, f], .load (some 65) (.s [t, t]), none⟩,
  ⟨some [t, t, t, f], .call f (.c (.func 72 [])) [(.s [f, t, t, f])], none⟩,
  ⟨some [t, f, f], .alloc none (List.replicate 64 (.int .i64 0)), none⟩,
  ⟨none, .store 64 (.s [t, f, f]) (.s [t, t, t, f]), none⟩]) : CCode)) false true
def c43_o5 : CCode := (fun (f t : Bool) => (.trim [[f], [t, t], [t, f, f]] (.ops [
  ⟨some [f, f, f, t], .move (.s [f]), none⟩,
  ⟨some [t, f, f, t], .move (.c (.int .i64 0)), none⟩]) : CCode)) false true
def c43_o6 : CCode := (fun (f t : Bool) => (.trim [[t, t], [t, f, f], [f, f, f, t], [t, f, f, t]] (.ops [
  ⟨some [f, t, f, t], .bin .lss (.s [t, f, f, t]) (.s [f, f, f, t]), none⟩]) : CCode)) false true
def c43_o7 : CCode := (fun (f t : Bool) => (.trim [[t, t], [t, f, f], [f, f, f, t], [t, f, f, t]] (.ops [
  ⟨some [f, f, t, t], .load (some 65) (.s [t, t]), none⟩,
  ⟨some [t, f, t, t], .load (some 64) (.s [t, f, f]), none⟩,
  ⟨some [f, t, t, t], .fieldAddr 1 (.s [t, t]), none⟩,
  ⟨some [t, t, t, t], .load (some 64) (.s [f, t, t, t]), none⟩,
  ⟨some [f, f, f, f, f], .call f (.c (.func 73 [])) [(.s [f, f, t, t]), (.s [t, f, t, t]), (.s [t, t, t, t])], none⟩,
  ⟨some [t, t, f, t], .move (.s [f, f, f, f, f]), none⟩,
  ⟨some [t, f, f, f, f], .extract 0 (.s [t, t, f, t]), none⟩,
  ⟨some [f, t, f, f, f], .extract 1 (.s [t, t, f, t]), none⟩,
  ⟨none, .store 64 (.s [t, f, f]) (.s [t, f, f, f, f]), none⟩,
  ⟨some [f, f, f], .move (.s [f, t, f, f, f]), none⟩]) : CCode)) false true
def c43_o8 : CCode := (fun (f t : Bool) => (.trim [[t, t], [f, f, f], [t, f, f], [f, f, f, t], [t, f, f, t]] (.ops [
  ⟨some [t, t, f, f, f], .move (.s [f, f, f]), none⟩,
  ⟨some [f, f, t, f, f], .un .not (.s [t, t, f, f, f]), none⟩]) : CCode)) false true
def c43_o9 : CCode := (fun (f t : Bool) => (.trim [] (.ops [
  ⟨some [t, f], .move (.c (.nils)), none⟩,
  ⟨some [f, t], .move (.c (.int .i64 5)), none⟩]) : CCode)) false true
def c43_o10 : CCode := (fun (f t : Bool) => (.trim [[t, t], [t, f, f], [f, f, f, t], [t, f, f, t]] (.ops [
  ⟨some [t, f, t, f, f], .bin .add (.s [t, f, f, t]) (.c (.int .i64 1)), none⟩,
  ⟨some [t, f, f, t], .move (.s [t, f, t, f, f]), none⟩]) : CCode)) false true
def c43_b0 : CCode := (fun (f t : Bool) => ((.seq c43_o6
 (.seq (.cond (.s [f, t, f, t]) .skip (.exit 0))
 (.seq (.block 1 (.seq c43_o7
 (.seq c43_o8
 (.cond (.s [f, f, t, f, f]) (.seq c43_o9
 .ret) .skip))))
 c43_o10))) : CCode)) false true
def c43_l0 : CCode := (fun (f t : Bool) => (.loop [[t, t], [t, f, f], [f, f, f, t], [t, f, f, t]] c43_b0 : CCode)) false true
def c43_o11 : CCode := (fun (f t : Bool) => (.trim [[t, t], [t, f, f]] (.ops [
  ⟨some [f, t, t, f, f], .load (some 65) (.s [t, t]), none⟩,
  ⟨some [t, t, t, f, f], .load (some 64) (.s [t, f, f]), none⟩,
  ⟨some [f, f, f, t, f], .call f (.c (.func 74 [])) [(.s [f, t, t, f, f]), (.s [t, t, t, f, f])], none⟩,
  ⟨some [t, f], .move (.s [f, f, f, t, f]), none⟩,
  ⟨some [f, t], .move (.c (.int .i64 0)), none⟩]) : CCode)) false true
def c43 : CFunc := (fun (f t : Bool) => ({ params := [[], [f]], results := [.slot [t, f], .slot [f, t]], shared := f, body := (.seq c43_o0
 (.seq c43_o1
 (.seq (.seq c43_o2
 (.cond (.s [t, f, t, f]) (.seq c43_o3
 .ret) .skip))
 (.seq c43_o4
 (.seq (.seq c43_o5
 (.block 0 c43_l0))
 (.seq c43_o11
 .ret)))))) } : CFunc)) false true
def c54_o0 : CCode := (fun (f t : Bool) => (.trim [[]] (.ops [
  ⟨some [t], .alloc none (List.replicate 65 (.int .i64 0)), none⟩,
  ⟨some [f, f], .move (.c (.bool f)), none⟩]) : CCode)) false true
def c54_o1 : CCode := (fun (f t : Bool) => (.trim [[], [t]] (.ops [
  ⟨some [f, f, f], .move (.s []), none⟩,
  ⟨some [t, f, f], .len 1 (.s [f, f, f]), none⟩,
  ⟨some [f, t, f], .build (List.replicate 65 (.int .i64 0)) [(0, 1, (.s [t, f, f]))], none⟩,
  ⟨some [t, f], .alloc none (List.replicate 65 (.int .i64 0)), none⟩,
  ⟨none, .store 65 (.s [t, f]) (.s [f, t, f]), none⟩]) : CCode)) false true
def c54_o2 : CCode := (fun (f t : Bool) => (.trim [[], [t], [t, f]] (.ops [
  ⟨some [t, t, f], .fieldAddr 0 (.s [t, f]), none⟩,
  ⟨some [f, f, t], .load none (.s [t, t, f]), none⟩,
  ⟨some [t, f, t], .call f (.c (.func 57 [])) [(.s [f, f, t]), (.c (.int .i64 1)), (.c (.int .i64 8))], none⟩,
  ⟨some [f, t, t], .un .not (.s [t, f, t]), none⟩]) : CCode)) false true
def c54_o3 : CCode := (fun (f t : Bool) => (.trim [[t], [t, f]] (.ops [
  ⟨some [t, t, t], .load (some 65) (.s [t, f]), none⟩,
  ⟨none, .store 65 (.s [t]) (.s [t, t, t]), none⟩,
  ⟨some [f, f], .move (.c (.bool f)), none⟩]) : CCode)) false true
def c54_o4 : CCode := (fun (f t : Bool) => (.trim [[], [t], [t, f]] (.ops [
  ⟨some [f, f, f, f], .move (.s []), none⟩,
  ⟨some [t, f, f, f], .len 1 (.s [f, f, f, f]), none⟩,
  ⟨some [f, t, f, f], .move (.c (.int .i64 0)), none⟩]) : CCode)) false true
def c54_o5 : CCode := (fun (f t : Bool) => (.trim [[t], [t, f], [f, f, f, f], [t, f, f, f], [f, t, f, f]] (.ops [
  ⟨some [t, t, f, f], .bin .lss (.s [f, t, f, f]) (.s [t, f, f, f]), none⟩]) : CCode)) false true
def c54_o6 : CCode := (fun (f t : Bool) => (.trim [[t], [t, f], [f, f, f, f], [t, f, f, f], [f, t, f, f]] (.ops [
  ⟨some [f, f, t, f], .move (.s [f, t, f, f]), none⟩,
  ⟨some [t, f, t, f], .idxSl 1 (.s [f, f, f, f]) (.s [f, t, f, f]), none⟩,
  ⟨some [f, t, t, f], .load none (.s [t, f, t, f]), none⟩,
  ⟨some [f, t], .move (.s [f, f, t, f]), none⟩,
  ⟨some [t, t], .move (.s [f, t, t, f]), none⟩]) : CCode)) false true
def c54_o7 : CCode := (fun (f t : Bool) => (.trim [[t], [t, f], [f, t], [t, t], [f, f, f, f], [t, f, f, f], [f, t, f, f]] (.ops [
  ⟨some [t, t, t, f], .move (.s [t, t]), none⟩,
  ⟨some [f, f, f, t], .len 1 (.s [t, t, t, f]), none⟩,
  ⟨some [t, f, f, t], .fieldAddr 0 (.s [t, f]), none⟩,
  ⟨some [f, t, f, t], .load none (.s [t, f, f, t]), none⟩,
  ⟨some [t, t, f, t], .bin .neq (.s [f, f, f, t]) (.s [f, t, f, t]), none⟩,
  ⟨some [f, f, t, t], .move (.s [t, t, f, t]), none⟩,
  ⟨some [t, f, t, t], .move (.s [t, t]), some ([f, f, t, t], f)⟩,
  ⟨some [f, t, t, t], .call f (.c (.func 55 [])) [(.s [t, f, t, t]), (.c (.func 77 []))], some ([f, f, t, t], f)⟩,
  ⟨some [t, t, t, t], .pick (.s [f, f, t, t]) (.c (.bool t)) (.s [f, t, t, t]), none⟩]) : CCode)) false true
def c54_o8 : CCode := (fun (f t : Bool) => (.trim [[t], [t, f]] (.ops [
  ⟨some [f, f, f, f, f], .load (some 65) (.s [t, f]), none⟩,
  ⟨none, .store 65 (.s [t]) (.s [f, f, f, f, f]), none⟩,
  ⟨some [f, f], .move (.c (.bool f)), none⟩]) : CCode)) false true
def c54_o9 : CCode := (fun (f t : Bool) => (.trim [[t], [t, f], [f, t], [t, t], [f, f, f, f], [t, f, f, f], [f, t, f, f]] (.ops [
  ⟨some [t, f, f, f, f], .move (.s [f, t]), none⟩,
  ⟨some [f, t, f, f, f], .fieldAddr 1 (.s [t, f]), none⟩,
  ⟨some [t, t, f, f, f], .idxArr 8 8 (.s [f, t, f, f, f]) (.s [t, f, f, f, f]), none⟩,
  ⟨some [f, f, t, f, f], .slArr 8 1 (.s [t, t, f, f, f]) none none, none⟩,
  ⟨some [t, f, t, f, f], .move (.s [t, t]), none⟩,
  ⟨some [f, t, t, f, f], .copy 1 (.s [f, f, t, f, f]) (.s [t, f, t, f, f]), none⟩]) : CCode)) false true
def c54_o10 : CCode := (fun (f t : Bool) => (.trim [[t], [t, f], [f, f, f, f], [t, f, f, f], [f, t, f, f]] (.ops [
  ⟨some [t, t, t, f, f], .bin .add (.s [f, t, f, f]) (.c (.int .i64 1)), none⟩,
  ⟨some [f, t, f, f], .move (.s [t, t, t, f, f]), none⟩]) : CCode)) false true
def c54_b0 : CCode := (fun (f t : Bool) => ((.seq c54_o5
 (.seq (.cond (.s [t, t, f, f]) .skip (.exit 0))
 (.seq (.block 1 (.seq c54_o6
 (.seq (.seq c54_o7
 (.cond (.s [t, t, t, t]) (.seq c54_o8
 .ret) .skip))
 c54_o9)))
 c54_o10))) : CCode)) false true
def c54_l0 : CCode := (fun (f t : Bool) => (.loop [[t], [t, f], [f, f, f, f], [t, f, f, f], [f, t, f, f]] c54_b0 : CCode)) false true
def c54_o11 : CCode := (fun (f t : Bool) => (.trim [[t], [t, f]] (.ops [
  ⟨some [f, f, f, t, f], .load (some 65) (.s [t, f]), none⟩,
  ⟨none, .store 65 (.s [t]) (.s [f, f, f, t, f]), none⟩,
  ⟨some [f, f], .move (.c (.bool t)), none⟩]) : CCode)) false true
def c54 : CFunc := (fun (f t : Bool) => ({ params := [[]], results := [.cell [t] (some 65), .slot [f, f]], shared := f, body := (.seq c54_o0
 (.seq c54_o1
 (.seq (.seq c54_o2
 (.cond (.s [f, t, t]) (.seq c54_o3
 .ret) .skip))
 (.seq (.seq c54_o4
 (.block 0 c54_l0))
 (.seq c54_o11
 .ret))))) } : CFunc)) false true
def c55_o0 : CCode := (fun (f t : Bool) => (.trim [[], [f]] (.ops [
  ⟨some [t, f], .move (.c (.bool f)), none⟩]) : CCode)) false true
def c55_o1 : CCode := (fun (f t : Bool) => (.trim [[], [f]] (.ops [
  ⟨some [f, t], .move (.s []), none⟩,
  ⟨some [t, t], .move (.s [f]), none⟩,
  ⟨some [f, f, f], .call f (.c (.func 78 [])) [(.s [f, t]), (.s [t, t])], none⟩,
  ⟨some [t, f, f], .bin .geq (.s [f, f, f]) (.c (.int .i64 0)), none⟩,
  ⟨some [t, f], .move (.s [t, f, f]), none⟩]) : CCode)) false true
def c55 : CFunc := (fun (f t : Bool) => ({ params := [[], [f]], results := [.slot [t, f]], shared := f, body := (.seq c55_o0
 (.seq c55_o1
 .ret)) } : CFunc)) false true
def c56_o0 : CCode := (fun (f t : Bool) => (.trim [[]] (.ops [
  ⟨some [t], .move (.c (.bool f)), none⟩]) : CCode)) false true
def c56_o1 : CCode := (fun (f t : Bool) => (.trim [[]] (.ops [
  ⟨some [f, f], .move (.s []), none⟩,
  ⟨some [t, f], .call f (.c (.func 57 [])) [(.s [f, f]), (.c (.int .i64 0)), (.c (.int .i64 100000000))], none⟩,
  ⟨some [f, t], .un .not (.s [t, f]), none⟩,
  ⟨some [t], .move (.s [f, t]), none⟩]) : CCode)) false true
def c56 : CFunc := (fun (f t : Bool) => ({ params := [[]], results := [.slot [t]], shared := t, body := (.seq c56_o0
 (.seq c56_o1
 .ret)) } : CFunc)) false true
def c57_o0 : CCode := (fun (f t : Bool) => (.trim [[], [f], [t]] (.ops [
  ⟨some [t, t], .move (.c (.bool f)), none⟩]) : CCode)) false true
def c57_o1 : CCode := (fun (f t : Bool) => (.trim [[], [f], [t]] (.ops [
  ⟨some [f, f, f], .move (.s []), none⟩,
  ⟨some [t, f, f], .move (.s [f]), none⟩,
  ⟨some [f, t, f], .bin .geq (.s [f, f, f]) (.s [t, f, f]), none⟩,
  ⟨some [t, t, f], .move (.s [f, t, f]), none⟩,
  ⟨some [f, f, t], .move (.s []), some ([t, t, f], t)⟩,
  ⟨some [t, f, t], .move (.s [t]), some ([t, t, f], t)⟩,
  ⟨some [f, t, t], .bin .leq (.s [f, f, t]) (.s [t, f, t]), some ([t, t, f], t)⟩,
  ⟨some [t, t, t], .pick (.s [t, t, f]) (.s [f, t, t]) (.c (.bool f)), none⟩,
  ⟨some [t, t], .move (.s [t, t, t]), none⟩]) : CCode)) false true
def c57 : CFunc := (fun (f t : Bool) => ({ params := [[], [f], [t]], results := [.slot [t, t]], shared := f, body := (.seq c57_o0
 (.seq c57_o1
 .ret)) } : CFunc)) false true
def c58_o0 : CCode := (fun (f t : Bool) => (.trim [[], [f]] (.ops [
  ⟨some [t], .box none (.s []), none⟩,
  ⟨some [t, f], .move (.c (.nils)), none⟩]) : CCode)) false true
def c58_o1 : CCode := (fun (f t : Bool) => (.trim [[f], [t]] (.ops [
  ⟨some [f, t, f], .fieldAddr 0 (.s [t]), none⟩,
  ⟨some [t, t, f], .load none (.s [f, t, f]), none⟩,
  ⟨some [f, f, t], .makeSlice none 1 8 [.int .i64 0] (.s [t, t, f]), none⟩,
  ⟨some [f, t], .move (.s [f, f, t]), none⟩]) : CCode)) false true
def c58_o2 : CCode := (fun (f t : Bool) => (.trim [[f], [t], [f, t]] (.ops [
  ⟨some [t, f, t], .move (.s [f, t]), none⟩,
  ⟨some [f, t, t], .len 1 (.s [t, f, t]), none⟩,
  ⟨some [t, t, t], .move (.c (.int .i64 0)), none⟩]) : CCode)) false true
def c58_o3 : CCode := (fun (f t : Bool) => (.trim [[f], [t], [f, t], [f, t, t], [t, t, t]] (.ops [
  ⟨some [f, f, f, f], .bin .lss (.s [t, t, t]) (.s [f, t, t]), none⟩]) : CCode)) false true
def c58_o4 : CCode := (fun (f t : Bool) => (.trim [[f], [t], [f, t], [f, t, t], [t, t, t]] (.ops [
  ⟨some [t, f, f, f], .move (.s [t, t, t]), none⟩,
  ⟨some [t, t], .move (.s [t, f, f, f]), none⟩]) : CCode)) false true
def c58_o5 : CCode := (fun (f t : Bool) => (.trim [[f], [t], [f, t], [t, t], [f, t, t], [t, t, t]] (.ops [
  ⟨some [f, t, f, f], .move (.s [f]), none⟩,
  ⟨some [t, t, f, f], .len 1 (.s [f, t, f, f]), none⟩,
  ⟨some [f, f, t, f], .move (.c (.int .i64 0)), none⟩]) : CCode)) false true
def c58_o6 : CCode := (fun (f t : Bool) => (.trim [[f], [t], [f, t], [t, t], [f, t, t], [t, t, t], [f, t, f, f], [t, t, f, f], [f, f, t, f]] (.ops [
  ⟨some [t, f, t, f], .bin .lss (.s [f, f, t, f]) (.s [t, t, f, f]), none⟩]) : CCode)) false true
def c58_o7 : CCode := (fun (f t : Bool) => (.trim [[f], [t], [f, t], [t, t], [f, t, t], [t, t, t], [f, t, f, f], [t, t, f, f], [f, f, t, f]] (.ops [
  ⟨some [f, t, t, f], .move (.s [f, f, t, f]), none⟩,
  ⟨some [t, t, t, f], .idxSl 1 (.s [f, t, f, f]) (.s [f, f, t, f]), none⟩,
  ⟨some [f, f, f, t], .load none (.s [t, t, t, f]), none⟩,
  ⟨some [f, f, f], .move (.s [f, t, t, f]), none⟩,
  ⟨some [t, f, f], .move (.s [f, f, f, t]), none⟩]) : CCode)) false true
def c58_o8 : CCode := (fun (f t : Bool) => (.trim [[f], [t], [f, t], [t, t], [f, f, f], [t, f, f], [f, t, t], [t, t, t], [f, t, f, f], [t, t, f, f], [f, f, t, f]] (.draw 0 [
  ⟨some [t, f, f, t], .move (.s [f, t]), none⟩,
  ⟨some [f, t, f, t], .move (.s [t, t]), none⟩,
  ⟨some [t, t, f, t], .idxSl 1 (.s [t, f, f, t]) (.s [f, t, f, t]), none⟩,
  ⟨some [f, f, t, t], .load none (.s [t, t, f, t]), none⟩,
  ⟨some [t, f, t, t], .move (.s [t, t]), none⟩,
  ⟨some [f, t, t, t], .move (.s [f, f, f]), none⟩,
  ⟨some [t, t, t, t], .fieldAddr 1 (.s [t]), none⟩,
  ⟨some [f, f, f, f, f], .idxArr 8 8 (.s [t, t, t, t]) (.s [t, f, t, t]), none⟩,
  ⟨some [t, f, f, f, f], .idxArr 8 1 (.s [f, f, f, f, f]) (.s [f, t, t, t]), none⟩,
  ⟨some [f, t, f, f, f], .load none (.s [t, f, f, f, f]), none⟩,
  ⟨some [t, t, f, f, f], .move (.s [t, f, f]), none⟩,
  ⟨some [f, f, t, f, f], .bin .mul (.s [f, t, f, f, f]) (.s [t, t, f, f, f]), none⟩,
  ⟨some [t, f, t, f, f], .bin .add (.s [f, f, t, t]) (.s [f, f, t, f, f]), none⟩,
  ⟨some [f, t, t, f, f], .idxSl 1 (.s [t, f, f, t]) (.s [f, t, f, t]), none⟩,
  ⟨none, .store 1 (.s [f, t, t, f, f]) (.s [t, f, t, f, f]), none⟩]
  [(3, 9)] [[], [], [0, 1], [0, 1, 2], [], [], [], [4, 6], [4, 5, 6, 7], [4, 5, 6, 7, 8], [], [4, 5, 6, 7, 8, 9, 10], (r 12), (r 13), (r 14)]) : CCode)) false true
def c58_o9 : CCode := (fun (f t : Bool) => (.trim [[f], [t], [f, t], [t, t], [f, t, t], [t, t, t], [f, t, f, f], [t, t, f, f], [f, f, t, f]] (.ops [
  ⟨some [t, t, t, f, f], .bin .add (.s [f, f, t, f]) (.c (.int .i64 1)), none⟩,
  ⟨some [f, f, t, f], .move (.s [t, t, t, f, f]), none⟩]) : CCode)) false true
def c58_b0 : CCode := (fun (f t : Bool) => ((.seq c58_o6
 (.seq (.cond (.s [t, f, t, f]) .skip (.exit 2))
 (.seq (.block 3 (.seq c58_o7
 c58_o8))
 c58_o9))) : CCode)) false true
def c58_l0 : CCode := (fun (f t : Bool) => (.loop [[f], [t], [f, t], [t, t], [f, t, t], [t, t, t], [f, t, f, f], [t, t, f, f], [f, f, t, f]] c58_b0 : CCode)) false true
def c58_o10 : CCode := (fun (f t : Bool) => (.trim [[f], [t], [f, t], [f, t, t], [t, t, t]] (.ops [
  ⟨some [f, f, f, t, f], .bin .add (.s [t, t, t]) (.c (.int .i64 1)), none⟩,
  ⟨some [t, t, t], .move (.s [f, f, f, t, f]), none⟩]) : CCode)) false true
def c58_b1 : CCode := (fun (f t : Bool) => ((.seq c58_o3
 (.seq (.cond (.s [f, f, f, f]) .skip (.exit 0))
 (.seq (.block 1 (.seq c58_o4
 (.seq c58_o5
 (.block 2 c58_l0))))
 c58_o10))) : CCode)) false true
def c58_l1 : CCode := (fun (f t : Bool) => (.loop [[f], [t], [f, t], [f, t, t], [t, t, t]] c58_b1 : CCode)) false true
def c58_o11 : CCode := (fun (f t : Bool) => (.trim [[f, t]] (.ops [
  ⟨some [t, f, f, t, f], .move (.s [f, t]), none⟩,
  ⟨some [t, f], .move (.s [t, f, f, t, f]), none⟩]) : CCode)) false true
def c58 : CFunc := (fun (f t : Bool) => ({ params := [[], [f]], results := [.slot [t, f]], shared := f, body := (.seq c58_o0
 (.seq c58_o1
 (.seq (.seq c58_o2
 (.block 0 c58_l1))
 (.seq c58_o11
 .ret)))) } : CFunc)) false true
def c59_o0 : CCode := (fun (f t : Bool) => (.trim [[]] (.ops [
  ⟨some [t], .move (.c (.bool f)), none⟩]) : CCode)) false true
def c59_o1 : CCode := (fun (f t : Bool) => (.trim [[]] (.ops [
  ⟨some [f, f], .move (.s []), none⟩,
  ⟨some [t, f], .call f (.c (.func 57 [])) [(.s [f, f]), (.c (.int .i64 1)), (.c (.int .i64 100000000))], none⟩,
  ⟨some [f, t], .un .not (.s [t, f]), none⟩,
  ⟨some [t], .move (.s [f, t]), none⟩]) : CCode)) false true
def c59 : CFunc := (fun (f t : Bool) => ({ params := [[]], results := [.slot [t]], shared := t, body := (.seq c59_o0
 (.seq c59_o1
 .ret)) } : CFunc)) false true
def c60_o0 : CCode := (fun (f t : Bool) => (.trim [[], [f]] (.ops [
  ⟨some [t, f], .move (.c (.int .i64 0)), none⟩]) : CCode)) false true
def c60_o1 : CCode := (fun (f t : Bool) => (.trim [[], [f]] (.ops [
  ⟨some [f, t], .move (.s [f]), none⟩,
  ⟨some [t, t], .bin .gtr (.s [f, t]) (.c (.int .i64 0)), none⟩]) : CCode)) false true
def c60_o2 : CCode := (fun (f t : Bool) => (.trim [[], [f]] (.draw 0 [
  ⟨some [f, f, f], .move (.s [f]), none⟩,
  ⟨some [t, f, f], .move (.s []), none⟩,
  ⟨some [f, t, f], .move (.s [f]), none⟩,
  ⟨some [t, t, f], .bin .rem (.s [t, f, f]) (.s [f, t, f]), none⟩,
  ⟨some [], .move (.s [f, f, f]), none⟩,
  ⟨some [f], .move (.s [t, t, f]), none⟩]
  [] [[], [], [], [1, 2], [0, 1], (r 5)]) : CCode)) false true
def c60_b0 : CCode := (fun (f t : Bool) => ((.seq (.seq c60_o1
 (.cond (.s [t, t]) .skip (.exit 0)))
 (.block 1 c60_o2)) : CCode)) false true
def c60_l0 : CCode := (fun (f t : Bool) => (.loop [[], [f]] c60_b0 : CCode)) false true
def c60_o3 : CCode := (fun (f t : Bool) => (.trim [[]] (.ops [
  ⟨some [f, f, t], .move (.s []), none⟩,
  ⟨some [t, f], .move (.s [f, f, t]), none⟩]) : CCode)) false true
def c60 : CFunc := (fun (f t : Bool) => ({ params := [[], [f]], results := [.slot [t, f]], shared := f, body := (.seq c60_o0
 (.seq (.block 0 c60_l0)
 (.seq c60_o3
 .ret))) } : CFunc)) false true
def c61_o0 : CCode := (fun (f t : Bool) => (.trim [[], [f]] (.ops [
  ⟨some [t, f], .alloc none [.int .i64 0, .int .i64 0], none⟩]) : CCode)) false true
def c61_o1 : CCode := (fun (f t : Bool) => (.trim [[], [f], [t, f]] (.ops [
  ⟨some [t, t], .move (.s []), none⟩,
  ⟨some [f, f, f], .move (.s [f]), none⟩,
  ⟨some [t, f, f], .call f (.c (.func 76 [])) [(.s [t, t]), (.s [f, f, f])], none⟩,
  ⟨some [f, t], .move (.s [t, f, f]), none⟩]) : CCode)) false true
def c61_o2 : CCode := (fun (f t : Bool) => (.trim [[], [f], [t, f], [f, t]] (.draw 0 [
  ⟨some [f, t, f], .move (.s []), none⟩,
  ⟨some [t, t, f], .move (.s [f, t]), none⟩,
  ⟨some [f, f, t], .bin .quo (.s [f, t, f]) (.s [t, t, f]), none⟩,
  ⟨some [t, f, t], .move (.s [f]), none⟩,
  ⟨some [f, t, t], .move (.s [f, t]), none⟩,
  ⟨some [t, t, t], .bin .quo (.s [t, f, t]) (.s [f, t, t]), none⟩,
  ⟨some [f, f, f, f], .build [.int .i64 0, .int .i64 0] [(0, 1, (.s [f, f, t])), (1, 1, (.s [t, t, t]))], none⟩,
  ⟨none, .store 2 (.s [t, f]) (.s [f, f, f, f]), none⟩]
  [] [[], [], [0, 1], [], [], [3, 4], (r 6), (r 7)]) : CCode)) false true
def c61 : CFunc := (fun (f t : Bool) => ({ params := [[], [f]], results := [.cell [t, f] (some 2)], shared := f, body := (.seq c61_o0
 (.seq c61_o1
 (.seq c61_o2
 .ret))) } : CFunc)) false true
def c62_o0 : CCode := (fun (f t : Bool) => (.trim [[]] (.ops [
  ⟨some [f], .box none (.s []), none⟩,
  ⟨some [t], .move (.c (.nils)), none⟩]) : CCode)) false true
def c62_o1 : CCode := (fun (f t : Bool) => (.trim [[f]] (.ops [
  ⟨some [t, f, f], .load (some 65) (.s [f]), none⟩,
  ⟨some [f, t, f], .call f (.c (.func 67 [])) [(.s [t, f, f])], none⟩,
  ⟨some [f, f], .alloc none (List.replicate 64 (.bool f)), none⟩,
  ⟨none, .store 64 (.s [f, f]) (.s [f, t, f]), none⟩]) : CCode)) false true
def c62_o2 : CCode := (fun (f t : Bool) => (.trim [[f], [f, f]] (.ops [
  ⟨some [t, f], .move (.c (.nils)), none⟩]) : CCode)) false true
def c62_o3 : CCode := (fun (f t : Bool) => (.trim [[f], [f, f], [t, f]] (.ops [
  ⟨some [t, t, f], .fieldAddr 0 (.s [f]), none⟩,
  ⟨some [f, f, t], .load none (.s [t, t, f]), none⟩,
  ⟨some [t, f, t], .move (.c (.int .i64 0)), none⟩]) : CCode)) false true
def c62_o4 : CCode := (fun (f t : Bool) => (.trim [[f, f], [t, f], [f, f, t], [t, f, t]] (.ops [
  ⟨some [f, t, t], .bin .lss (.s [t, f, t]) (.s [f, f, t]), none⟩]) : CCode)) false true
def c62_o5 : CCode := (fun (f t : Bool) => (.trim [[f, f], [t, f], [f, f, t], [t, f, t]] (.ops [
  ⟨some [t, t, t], .move (.s [t, f, t]), none⟩,
  ⟨some [f, t], .move (.s [t, t, t]), none⟩]) : CCode)) false true
def c62_o6 : CCode := (fun (f t : Bool) => (.trim [[f, f], [t, f], [f, t], [f, f, t], [t, f, t]] (.ops [
  ⟨some [f, f, f, f], .move (.s [f, t]), none⟩,
  ⟨some [t, t], .move (.s [f, f, f, f]), none⟩]) : CCode)) false true
def c62_o7 : CCode := (fun (f t : Bool) => (.trim [[f, f], [t, f], [f, t], [t, t], [f, f, t], [t, f, t]] (.ops [
  ⟨some [t, f, f, f], .move (.s [f, t]), none⟩,
  ⟨some [f, t, f, f], .move (.c (.int .i64 0)), none⟩]) : CCode)) false true
def c62_o8 : CCode := (fun (f t : Bool) => (.trim [[f, f], [t, f], [f, t], [t, t], [f, f, t], [t, f, t], [t, f, f, f], [f, t, f, f]] (.ops [
  ⟨some [t, t, f, f], .bin .lss (.s [f, t, f, f]) (.s [t, f, f, f]), none⟩]) : CCode)) false true
def c62_o9 : CCode := (fun (f t : Bool) => (.trim [[f, f], [t, f], [f, t], [t, t], [f, f, t], [t, f, t], [t, f, f, f], [f, t, f, f]] (.ops [
  ⟨some [f, f, t, f], .move (.s [f, t, f, f]), none⟩,
  ⟨some [f, f, f], .move (.s [f, f, t, f]), none⟩]) : CCode)) false true
def c62_o10 : CCode := (fun (f t : Bool) => (.trim [[f, f], [t, f], [f, t], [t, t], [f, f, f], [f, f, t], [t, f, t], [t, f, f, f], [f, t, f, f]] (.ops [
  ⟨some [t, f, t, f], .move (.s [f, t]), none⟩,
  ⟨some [f, t, t, f], .move (.s [f, f, f]), none⟩,
  ⟨some [t, t, t, f], .idxArr 8 8 (.s [f, f]) (.s [t, f, t, f]), none⟩,
  ⟨some [f, f, f, t], .idxArr 8 1 (.s [t, t, t, f]) (.s [f, t, t, f]), none⟩,
  ⟨some [t, f, f, t], .load none (.s [f, f, f, t]), none⟩,
  ⟨some [f, t, f, t], .move (.s [t, f, f, t]), none⟩,
  ⟨some [t, t, f, t], .move (.s [f, f, f]), some ([f, t, f, t], t)⟩,
  ⟨some [f, f, t, t], .move (.s [f, t]), some ([f, t, f, t], t)⟩,
  ⟨some [t, f, t, t], .idxArr 8 8 (.s [f, f]) (.s [t, t, f, t]), some ([f, t, f, t], t)⟩,
  ⟨some [f, t, t, t], .idxArr 8 1 (.s [t, f, t, t]) (.s [f, f, t, t]), some ([f, t, f, t], t)⟩,
  ⟨some [t, t, t, t], .load none (.s [f, t, t, t]), some ([f, t, f, t], t)⟩,
  ⟨some [f, f, f, f, f], .pick (.s [f, t, f, t]) (.s [t, t, t, t]) (.c (.bool f)), none⟩]) : CCode)) false true
def c62_o11 : CCode := (fun (f t : Bool) => (.trim [[f, f], [t, f], [f, t], [t, t], [f, f, f], [f, f, t], [t, f, t], [t, f, f, f], [f, t, f, f]] (.ops [
  ⟨some [t, f, f, f, f], .move (.s [t, t]), none⟩,
  ⟨some [f, t, f, f, f], .move (.s [f, f, f]), none⟩,
  ⟨some [t, t, f, f, f], .minmax f (.s [t, f, f, f, f]) (.s [f, t, f, f, f]), none⟩,
  ⟨some [t, t], .move (.s [t, t, f, f, f]), none⟩]) : CCode)) false true
def c62_o12 : CCode := (fun (f t : Bool) => (.trim [[f, f], [t, f], [f, t], [t, t], [f, f, t], [t, f, t], [t, f, f, f], [f, t, f, f]] (.ops [
  ⟨some [f, f, t, f, f], .bin .add (.s [f, t, f, f]) (.c (.int .i64 1)), none⟩,
  ⟨some [f, t, f, f], .move (.s [f, f, t, f, f]), none⟩]) : CCode)) false true
def c62_b0 : CCode := (fun (f t : Bool) => ((.seq c62_o8
 (.seq (.cond (.s [t, t, f, f]) .skip (.exit 2))
 (.seq (.block 3 (.seq c62_o9
 (.seq c62_o10
 (.cond (.s [f, f, f, f, f]) c62_o11 .skip))))
 c62_o12))) : CCode)) false true
def c62_l0 : CCode := (fun (f t : Bool) => (.loop [[f, f], [t, f], [f, t], [t, t], [f, f, t], [t, f, t], [t, f, f, f], [f, t, f, f]] c62_b0 : CCode)) false true
def c62_o13 : CCode := (fun (f t : Bool) => (.trim [[f, f], [t, f], [t, t], [f, f, t], [t, f, t]] (.ops [
  ⟨some [t, f, t, f, f], .move (.s [t, f]), none⟩,
  ⟨some [f, t, t, f, f], .move (.s [t, t]), none⟩,
  ⟨some [t, t, t, f, f], .buildSlice none 1 1 [.int .i64 0] [(0, 1, (.s [f, t, t, f, f]))], none⟩,
  ⟨some [f, f, f, t, f], .append none 1 8 (.s [t, f, t, f, f]) (.s [t, t, t, f, f]), none⟩,
  ⟨some [t, f], .move (.s [f, f, f, t, f]), none⟩]) : CCode)) false true
def c62_o14 : CCode := (fun (f t : Bool) => (.trim [[f, f], [t, f], [f, f, t], [t, f, t]] (.ops [
  ⟨some [t, f, f, t, f], .bin .add (.s [t, f, t]) (.c (.int .i64 1)), none⟩,
  ⟨some [t, f, t], .move (.s [t, f, f, t, f]), none⟩]) : CCode)) false true
def c62_b1 : CCode := (fun (f t : Bool) => ((.seq c62_o4
 (.seq (.cond (.s [f, t, t]) .skip (.exit 0))
 (.seq (.block 1 (.seq c62_o5
 (.seq c62_o6
 (.seq (.seq c62_o7
 (.block 2 c62_l0))
 c62_o13))))
 c62_o14))) : CCode)) false true
def c62_l1 : CCode := (fun (f t : Bool) => (.loop [[f, f], [t, f], [f, f, t], [t, f, t]] c62_b1 : CCode)) false true
def c62_o15 : CCode := (fun (f t : Bool) => (.trim [[t, f]] (.ops [
  ⟨some [f, t, f, t, f], .move (.s [t, f]), none⟩,
  ⟨some [t], .move (.s [f, t, f, t, f]), none⟩]) : CCode)) false true
def c62 : CFunc := (fun (f t : Bool) => ({ params := [[]], results := [.slot [t]], shared := f, body := (.seq c62_o0
 (.seq c62_o1
 (.seq c62_o2
 (.seq (.seq c62_o3
 (.block 0 c62_l1))
 (.seq c62_o15
 .ret))))) } : CFunc)) false true
def c63_o0 : CCode := (fun (f t : Bool) => (.trim [[], [f]] (.ops [
  ⟨some [t], .box none (.s []), none⟩,
  ⟨some [t, f], .move (.c (.nils)), none⟩,
  ⟨some [f, t], .move (.c (.int .i64 0)), none⟩]) : CCode)) false true
def c63_o1 : CCode := (fun (f t : Bool) => (.trim [[f], [t]] (.ops [
  ⟨some [t, t, t], .load (some 65) (.s [t]), none⟩,
  ⟨some [f, f, f, f], .call f (.c (.func 62 [])) [(.s [t, t, t])], none⟩,
  ⟨some [t, t], .move (.s [f, f, f, f]), none⟩]) : CCode)) false true
def c63_o2 : CCode := (fun (f t : Bool) => (.trim [[f], [t], [t, t]] (.ops [
  ⟨some [t, f, f, f], .fieldAddr 0 (.s [t]), none⟩,
  ⟨some [f, t, f, f], .load none (.s [t, f, f, f]), none⟩,
  ⟨some [t, t, f, f], .makeSlice none 1 8 [.int .i64 0] (.s [f, t, f, f]), none⟩,
  ⟨some [f, f, f], .move (.s [t, t, f, f]), none⟩]) : CCode)) false true
def c63_o3 : CCode := (fun (f t : Bool) => (.trim [[f], [t], [t, t], [f, f, f]] (.ops [
  ⟨some [f, f, t, f], .move (.s [f, f, f]), none⟩,
  ⟨some [t, f, t, f], .len 1 (.s [f, f, t, f]), none⟩,
  ⟨some [f, t, t, f], .move (.c (.int .i64 0)), none⟩]) : CCode)) false true
def c63_o4 : CCode := (fun (f t : Bool) => (.trim [[f], [t], [t, t], [f, f, f], [t, f, t, f], [f, t, t, f]] (.ops [
  ⟨some [t, t, t, f], .bin .lss (.s [f, t, t, f]) (.s [t, f, t, f]), none⟩]) : CCode)) false true
def c63_o5 : CCode := (fun (f t : Bool) => (.trim [[f], [t], [t, t], [f, f, f], [t, f, t, f], [f, t, t, f]] (.ops [
  ⟨some [f, f, f, t], .move (.s [f, t, t, f]), none⟩,
  ⟨some [t, f, f], .move (.s [f, f, f, t]), none⟩]) : CCode)) false true
def c63_o6 : CCode := (fun (f t : Bool) => (.trim [[f], [t], [t, t], [f, f, f], [t, f, f], [t, f, t, f], [f, t, t, f]] (.ops [
  ⟨some [t, f, f, t], .move (.s [f, f, f]), none⟩,
  ⟨some [f, t, f, t], .move (.s [t, f, f]), none⟩,
  ⟨some [t, t, f, t], .idxSl 1 (.s [t, f, f, t]) (.s [f, t, f, t]), none⟩,
  ⟨none, .store 1 (.s [t, t, f, t]) (.c (.int .i64 (-1))), none⟩]) : CCode)) false true
def c63_o7 : CCode := (fun (f t : Bool) => (.trim [[f], [t], [t, t], [f, f, f], [t, f, t, f], [f, t, t, f]] (.ops [
  ⟨some [f, f, t, t], .bin .add (.s [f, t, t, f]) (.c (.int .i64 1)), none⟩,
  ⟨some [f, t, t, f], .move (.s [f, f, t, t]), none⟩]) : CCode)) false true
def c63_b0 : CCode := (fun (f t : Bool) => ((.seq c63_o4
 (.seq (.cond (.s [t, t, t, f]) .skip (.exit 0))
 (.seq (.block 1 (.seq c63_o5
 c63_o6))
 c63_o7))) : CCode)) false true
def c63_l0 : CCode := (fun (f t : Bool) => (.loop [[f], [t], [t, t], [f, f, f], [t, f, t, f], [f, t, t, f]] c63_b0 : CCode)) false true
def c63_o8 : CCode := (fun (f t : Bool) => (.trim [[f], [t], [t, t], [f, f, f]] (.ops [
  ⟨some [t, f, t, t], .move (.s [f, f, f]), none⟩,
  ⟨some [f, t, t, t], .move (.s [f]), none⟩,
  ⟨some [t, t, t, t], .idxSl 1 (.s [t, f, t, t]) (.s [f, t, t, t]), none⟩,
  ⟨none, .store 1 (.s [t, t, t, t]) (.c (.int .i64 0)), none⟩]) : CCode)) false true
def c63_o9 : CCode := (fun (f t : Bool) => (.trim [[f], [t], [t, t], [f, f, f]] (.ops [
  ⟨some [f, f, f, f, f], .move (.s [f]), none⟩,
  ⟨some [t, f, f, f, f], .buildSlice none 1 1 [.int .i64 0] [(0, 1, (.s [f, f, f, f, f]))], none⟩,
  ⟨some [f, t, f], .move (.s [t, f, f, f, f]), none⟩]) : CCode)) false true
def c63_o10 : CCode := (fun (f t : Bool) => (.trim [[f], [t], [t, t], [f, f, f], [f, t, f]] (.ops [
  ⟨some [t, t, f], .move (.c (.int .i64 0)), none⟩]) : CCode)) false true
def c63_o11 : CCode := (fun (f t : Bool) => (.trim [[f], [t], [t, t], [f, f, f], [f, t, f], [t, t, f]] (.ops [
  ⟨some [f, f, t], .move (.c (.int .i64 0)), none⟩]) : CCode)) false true
def c63_o12 : CCode := (fun (f t : Bool) => (.trim [[f], [t], [t, t], [f, f, f], [f, t, f], [t, t, f], [f, f, t]] (.ops [
  ⟨some [f, t, f, f, f], .move (.s [f, f, t]), none⟩,
  ⟨some [t, t, f, f, f], .move (.s [f, t, f]), none⟩,
  ⟨some [f, f, t, f, f], .len 1 (.s [t, t, f, f, f]), none⟩,
  ⟨some [t, f, t, f, f], .bin .lss (.s [f, t, f, f, f]) (.s [f, f, t, f, f]), none⟩]) : CCode)) false true
def c63_o13 : CCode := (fun (f t : Bool) => (.trim [[f], [t], [t, t], [f, f, f], [f, t, f], [t, t, f], [f, f, t]] (.ops [
  ⟨some [f, f, f, t, f], .move (.s [f, t, f]), none⟩,
  ⟨some [t, f, f, t, f], .move (.s [f, f, t]), none⟩,
  ⟨some [f, t, f, t, f], .idxSl 1 (.s [f, f, f, t, f]) (.s [t, f, f, t, f]), none⟩,
  ⟨some [t, t, f, t, f], .load none (.s [f, t, f, t, f]), none⟩,
  ⟨some [t, f, t], .move (.s [t, t, f, t, f]), none⟩]) : CCode)) false true
def c63_o14 : CCode := (fun (f t : Bool) => (.trim [[f], [t], [t, t], [f, f, f], [f, t, f], [t, t, f], [f, f, t], [t, f, t]] (.ops [
  ⟨some [f, f, t, t, f], .fieldAddr 0 (.s [t]), none⟩,
  ⟨some [t, f, t, t, f], .load none (.s [f, f, t, t, f]), none⟩,
  ⟨some [f, t, t, t, f], .move (.c (.int .i64 0)), none⟩]) : CCode)) false true
def c63_o15 : CCode := (fun (f t : Bool) => (.trim [[f], [t], [t, t], [f, f, f], [f, t, f], [t, t, f], [f, f, t], [t, f, t], [t, f, t, t, f], [f, t, t, t, f]] (.ops [
  ⟨some [t, t, t, t, f], .bin .lss (.s [f, t, t, t, f]) (.s [t, f, t, t, f]), none⟩]) : CCode)) false true
def c63_o16 : CCode := (fun (f t : Bool) => (.trim [[f], [t], [t, t], [f, f, f], [f, t, f], [t, t, f], [f, f, t], [t, f, t], [t, f, t, t, f], [f, t, t, t, f]] (.ops [
  ⟨some [f, f, f, f, t], .move (.s [f, t, t, t, f]), none⟩,
  ⟨some [f, t, t], .move (.s [f, f, f, f, t]), none⟩]) : CCode)) false true
def c63_o17 : CCode := (fun (f t : Bool) => (.trim [[f], [t], [t, t], [f, f, f], [f, t, f], [t, t, f], [f, f, t], [t, f, t], [f, t, t], [t, f, t, t, f], [f, t, t, t, f]] (.draw 0 [
  ⟨some [t, f, f, t, f, f], .move (.s [t, f, t]), none⟩,
  ⟨some [f, t, f, t, f, f], .move (.s [f, t, t]), none⟩,
  ⟨some [t, t, f, t, f, f], .fieldAddr 1 (.s [t]), none⟩,
  ⟨some [f, f, t, t, f, f], .idxArr 8 8 (.s [t, t, f, t, f, f]) (.s [t, f, f, t, f, f]), none⟩,
  ⟨some [t, f, t, t, f, f], .idxArr 8 1 (.s [f, f, t, t, f, f]) (.s [f, t, f, t, f, f]), none⟩,
  ⟨some [f, t, t, t, f, f], .load none (.s [t, f, t, t, f, f]), none⟩,
  ⟨some [t, t, t, t, f, f], .bin .eql (.s [f, t, t, t, f, f]) (.c (.int .i64 0)), none⟩,
  ⟨some [f, f, f, f, t, f], .move (.s [t, t, t, t, f, f]), none⟩,
  ⟨some [t, f, f, f, t, f], .move (.s [t, t]), some ([f, f, f, f, t, f], f)⟩,
  ⟨some [f, t, f, f, t, f], .move (.s [f, t, t]), some ([f, f, f, f, t, f], f)⟩,
  ⟨some [t, t, f, f, t, f], .idxSl 1 (.s [t, f, f, f, t, f]) (.s [f, t, f, f, t, f]), some ([f, f, f, f, t, f], f)⟩,
  ⟨some [f, f, t, f, t, f], .load none (.s [t, t, f, f, t, f]), some ([f, f, f, f, t, f], f)⟩,
  ⟨some [t, f, t, f, t, f], .move (.s [t, t]), some ([f, f, f, f, t, f], f)⟩,
  ⟨some [f, t, t, f, t, f], .move (.s [f]), some ([f, f, f, f, t, f], f)⟩,
  ⟨some [t, t, t, f, t, f], .idxSl 1 (.s [t, f, t, f, t, f]) (.s [f, t, t, f, t, f]), some ([f, f, f, f, t, f], f)⟩,
  ⟨some [f, f, f, t, t, f], .load none (.s [t, t, t, f, t, f]), some ([f, f, f, f, t, f], f)⟩,
  ⟨some [t, f, f, t, t, f], .bin .neq (.s [f, f, t, f, t, f]) (.s [f, f, f, t, t, f]), some ([f, f, f, f, t, f], f)⟩,
  ⟨some [f, t, f, t, t, f], .pick (.s [f, f, f, f, t, f]) (.c (.bool t)) (.s [t, f, f, t, t, f]), none⟩,
  ⟨some [f, f, f, t, f, f], .move (.s [f, t, f, t, t, f]), none⟩]
  [(11, 15)] [[], [], [], [0, 2], [0, 1, 2, 3], (r 5), (r 6), (r 7), (r 8), (r 8), (r 10), (r 11), (r 8), (r 8), (r 8 ++ [12, 13]), (r 8 ++ [12, 13, 14]), (r 16), (r 17), (r 18)]) : CCode)) false true
def c63_o18 : CCode := (fun (f t : Bool) => (.trim [[f], [t], [t, t], [f, f, f], [f, t, f], [t, t, f], [f, f, t], [t, f, t], [f, t, t], [t, f, t, t, f], [f, t, t, t, f]] (.ops [
  ⟨some [f, f, t, t, t, f], .move (.s [f, f, f]), none⟩,
  ⟨some [t, f, t, t, t, f], .move (.s [f, t, t]), none⟩,
  ⟨some [f, t, t, t, t, f], .idxSl 1 (.s [f, f, t, t, t, f]) (.s [t, f, t, t, t, f]), none⟩,
  ⟨some [t, t, t, t, t, f], .load none (.s [f, t, t, t, t, f]), none⟩,
  ⟨some [f, f, f, f, f, t], .bin .lss (.s [t, t, t, t, t, f]) (.c (.int .i64 0)), none⟩,
  ⟨some [t, t, f, t, t, f], .move (.s [f, f, f, f, f, t]), none⟩]) : CCode)) false true
def c63_o19 : CCode := (fun (f t : Bool) => (.trim [[f], [t], [t, t], [f, f, f], [f, t, f], [t, t, f], [f, f, t], [t, f, t], [f, t, t], [t, f, t, t, f], [f, t, t, t, f]] (.ops [
  ⟨some [t, f, f, f, f, t], .move (.s [f, f, f]), none⟩,
  ⟨some [f, t, f, f, f, t], .move (.s [f, t, t]), none⟩,
  ⟨some [t, t, f, f, f, t], .move (.s [f, f, f]), none⟩,
  ⟨some [f, f, t, f, f, t], .move (.s [t, f, t]), none⟩,
  ⟨some [t, f, t, f, f, t], .idxSl 1 (.s [t, t, f, f, f, t]) (.s [f, f, t, f, f, t]), none⟩,
  ⟨some [f, t, t, f, f, t], .load none (.s [t, f, t, f, f, t]), none⟩,
  ⟨some [t, t, t, f, f, t], .bin .add (.s [f, t, t, f, f, t]) (.c (.int .i64 1)), none⟩,
  ⟨some [f, f, f, t, f, t], .idxSl 1 (.s [t, f, f, f, f, t]) (.s [f, t, f, f, f, t]), none⟩,
  ⟨none, .store 1 (.s [f, f, f, t, f, t]) (.s [t, t, t, f, f, t]), none⟩]) : CCode)) false true
def c63_o20 : CCode := (fun (f t : Bool) => (.trim [[f], [t], [t, t], [f, f, f], [f, t, f], [t, t, f], [f, f, t], [t, f, t], [f, t, t], [t, f, t, t, f], [f, t, t, t, f]] (.ops [
  ⟨some [t, f, f, t, f, t], .move (.s [f, t, f]), none⟩,
  ⟨some [f, t, f, t, f, t], .move (.s [f, t, t]), none⟩,
  ⟨some [t, t, f, t, f, t], .buildSlice none 1 1 [.int .i64 0] [(0, 1, (.s [f, t, f, t, f, t]))], none⟩,
  ⟨some [f, f, t, t, f, t], .append none 1 8 (.s [t, f, f, t, f, t]) (.s [t, t, f, t, f, t]), none⟩,
  ⟨some [f, t, f], .move (.s [f, f, t, t, f, t]), none⟩]) : CCode)) false true
def c63_o21 : CCode := (fun (f t : Bool) => (.trim [[f], [t], [t, t], [f, f, f], [f, t, f], [t, t, f], [f, f, t], [t, f, t], [f, t, t], [t, f, t, t, f], [f, t, t, t, f]] (.draw 0 [
  ⟨some [t, f, f, f, t], .move (.s [f, f, f]), none⟩,
  ⟨some [f, t, f, f, t], .move (.s [t, f, t]), none⟩,
  ⟨some [t, t, f, f, t], .idxSl 1 (.s [t, f, f, f, t]) (.s [f, t, f, f, t]), none⟩,
  ⟨some [f, f, t, f, t], .load none (.s [t, t, f, f, t]), none⟩,
  ⟨some [t, f, t, f, t], .bin .add (.s [f, f, t, f, t]) (.c (.int .i64 1)), none⟩,
  ⟨some [f, t, t, f, t], .move (.s [f, f, f]), none⟩,
  ⟨some [t, t, t, f, t], .move (.s [f, t, t]), none⟩,
  ⟨some [f, f, f, t, t], .idxSl 1 (.s [f, t, t, f, t]) (.s [t, t, t, f, t]), none⟩,
  ⟨some [t, f, f, t, t], .load none (.s [f, f, f, t, t]), none⟩,
  ⟨some [f, t, f, t, t], .bin .sub (.s [t, f, t, f, t]) (.s [t, f, f, t, t]), none⟩,
  ⟨some [t, t, f, t, t], .move (.s [f, f, f]), none⟩,
  ⟨some [f, f, t, t, t], .move (.s [f, t, t]), none⟩,
  ⟨some [t, f, t, t, t], .idxSl 1 (.s [t, t, f, t, t]) (.s [f, f, t, t, t]), none⟩,
  ⟨some [f, t, t, t, t], .load none (.s [t, f, t, t, t]), none⟩,
  ⟨some [t, t, t, t, t], .move (.s [f, f, f]), none⟩,
  ⟨some [f, f, f, f, f, f], .move (.s [t, f, t]), none⟩,
  ⟨some [t, f, f, f, f, f], .idxSl 1 (.s [t, t, t, t, t]) (.s [f, f, f, f, f, f]), none⟩,
  ⟨some [f, t, f, f, f, f], .load none (.s [t, f, f, f, f, f]), none⟩,
  ⟨some [t, t, f, f, f, f], .bin .sub (.s [f, t, t, t, t]) (.s [f, t, f, f, f, f]), none⟩,
  ⟨some [f, f, t, f, f, f], .bin .sub (.s [t, t, f, f, f, f]) (.c (.int .i64 1)), none⟩,
  ⟨some [t, f, t, f, f, f], .minmax t (.s [f, t, f, t, t]) (.s [f, f, t, f, f, f]), none⟩,
  ⟨some [f, t, t, f, f, f], .move (.s [t, t, f]), none⟩,
  ⟨some [t, t, t, f, f, f], .call f (.c (.func 60 [])) [(.s [t, f, t, f, f, f]), (.s [f, t, t, f, f, f])], none⟩,
  ⟨some [t, t, f], .move (.s [t, t, t, f, f, f]), none⟩]
  [(3, 8), (3, 13), (8, 13), (3, 17), (8, 17), (13, 17)] [[], [], [0, 1], [0, 1, 2], [0, 1, 2, 3], [], [], [5, 6], [5, 6, 7], (r 9), [], [], [10, 11], [10, 11, 12], [], [], [14, 15], [14, 15, 16], [10, 11, 12, 13, 14, 15, 16, 17], [10, 11, 12, 13, 14, 15, 16, 17, 18], (r 20), [], (r 22), (r 23)]) : CCode)) false true
def c63_o22 : CCode := (fun (f t : Bool) => (.trim [[f], [t], [t, t], [f, f, f], [f, t, f], [t, t, f], [f, f, t], [t, f, t], [t, f, t, t, f], [f, t, t, t, f]] (.ops [
  ⟨some [t, f, t, t, f, t], .bin .add (.s [f, t, t, t, f]) (.c (.int .i64 1)), none⟩,
  ⟨some [f, t, t, t, f], .move (.s [t, f, t, t, f, t]), none⟩]) : CCode)) false true
def c63_b1 : CCode := (fun (f t : Bool) => ((.seq c63_o15
 (.seq (.cond (.s [t, t, t, t, f]) .skip (.exit 4))
 (.seq (.block 5 (.seq c63_o16
 (.block 6 (.seq c63_o17
 (.cond (.s [f, f, f, t, f, f]) .skip (.seq c63_o18
 (.cond (.s [t, t, f, t, t, f]) (.seq c63_o19
 c63_o20) c63_o21)))))))
 c63_o22))) : CCode)) false true
def c63_l1 : CCode := (fun (f t : Bool) => (.loop [[f], [t], [t, t], [f, f, f], [f, t, f], [t, t, f], [f, f, t], [t, f, t], [t, f, t, t, f], [f, t, t, t, f]] c63_b1 : CCode)) false true
def c63_o23 : CCode := (fun (f t : Bool) => (.trim [[f], [t], [t, t], [f, f, f], [f, t, f], [t, t, f], [f, f, t]] (.ops [
  ⟨some [f, t, t, f, f], .move (.s [f, f, t]), none⟩,
  ⟨some [t, t, t, f, f], .bin .add (.s [f, t, t, f, f]) (.c (.int .i64 1)), none⟩,
  ⟨some [f, f, t], .move (.s [t, t, t, f, f]), none⟩]) : CCode)) false true
def c63_b2 : CCode := (fun (f t : Bool) => ((.seq (.seq c63_o12
 (.cond (.s [t, f, t, f, f]) .skip (.exit 2)))
 (.seq (.block 3 (.seq c63_o13
 (.seq c63_o14
 (.block 4 c63_l1))))
 c63_o23)) : CCode)) false true
def c63_l2 : CCode := (fun (f t : Bool) => (.loop [[f], [t], [t, t], [f, f, f], [f, t, f], [t, t, f], [f, f, t]] c63_b2 : CCode)) false true
def c63_o24 : CCode := (fun (f t : Bool) => (.trim [[f, f, f], [t, t, f]] (.ops [
  ⟨some [f, t, t, t, f, t], .move (.s [f, f, f]), none⟩,
  ⟨some [t, t, t, t, f, t], .move (.s [t, t, f]), none⟩,
  ⟨some [t, f], .move (.s [f, t, t, t, f, t]), none⟩,
  ⟨some [f, t], .move (.s [t, t, t, t, f, t]), none⟩]) : CCode)) false true
def c63 : CFunc := (fun (f t : Bool) => ({ params := [[], [f]], results := [.slot [t, f], .slot [f, t]], shared := f, body := (.seq c63_o0
 (.seq c63_o1
 (.seq c63_o2
 (.seq (.seq c63_o3
 (.block 0 c63_l0))
 (.seq c63_o8
 (.seq c63_o9
 (.seq c63_o10
 (.seq (.seq c63_o11
 (.block 2 c63_l2))
 (.seq c63_o24
 .ret))))))))) } : CFunc)) false true
def c64_o0 : CCode := (fun (f t : Bool) => (.trim [[]] (.ops [
  ⟨some [f], .box none (.s []), none⟩,
  ⟨some [t], .alloc none (List.replicate 64 (.bool f)), none⟩]) : CCode)) false true
def c64_o1 : CCode := (fun (f t : Bool) => (.trim [[f], [t]] (.ops [
  ⟨some [f, f], .alloc none (List.replicate 64 (.bool f)), none⟩]) : CCode)) false true
def c64_o2 : CCode := (fun (f t : Bool) => (.trim [[f], [t], [f, f]] (.ops [
  ⟨some [t, t], .fieldAddr 0 (.s [f]), none⟩,
  ⟨some [f, f, f], .load none (.s [t, t]), none⟩,
  ⟨some [t, f, f], .move (.c (.int .i64 0)), none⟩]) : CCode)) false true
def c64_o3 : CCode := (fun (f t : Bool) => (.trim [[f], [t], [f, f], [f, f, f], [t, f, f]] (.ops [
  ⟨some [f, t, f], .bin .lss (.s [t, f, f]) (.s [f, f, f]), none⟩]) : CCode)) false true
def c64_o4 : CCode := (fun (f t : Bool) => (.trim [[f], [t], [f, f], [f, f, f], [t, f, f]] (.ops [
  ⟨some [t, t, f], .move (.s [t, f, f]), none⟩,
  ⟨some [t, f], .move (.s [t, t, f]), none⟩]) : CCode)) false true
def c64_o5 : CCode := (fun (f t : Bool) => (.trim [[f], [t], [f, f], [t, f], [f, f, f], [t, f, f]] (.ops [
  ⟨some [f, f, t], .fieldAddr 0 (.s [f]), none⟩,
  ⟨some [t, f, t], .load none (.s [f, f, t]), none⟩,
  ⟨some [f, t, t], .move (.c (.int .i64 0)), none⟩]) : CCode)) false true
def c64_o6 : CCode := (fun (f t : Bool) => (.trim [[f], [t], [f, f], [t, f], [f, f, f], [t, f, f], [t, f, t], [f, t, t]] (.ops [
  ⟨some [t, t, t], .bin .lss (.s [f, t, t]) (.s [t, f, t]), none⟩]) : CCode)) false true
def c64_o7 : CCode := (fun (f t : Bool) => (.trim [[f], [t], [f, f], [t, f], [f, f, f], [t, f, f], [t, f, t], [f, t, t]] (.ops [
  ⟨some [f, f, f, f], .move (.s [f, t, t]), none⟩,
  ⟨some [f, t], .move (.s [f, f, f, f]), none⟩]) : CCode)) false true
def c64_o8 : CCode := (fun (f t : Bool) => (.trim [[f], [t], [f, f], [t, f], [f, t], [f, f, f], [t, f, f], [t, f, t], [f, t, t]] (.draw 0 [
  ⟨some [t, f, f, f], .move (.s [t, f]), none⟩,
  ⟨some [f, t, f, f], .move (.s [f, t]), none⟩,
  ⟨some [t, t, f, f], .move (.s [t, f]), none⟩,
  ⟨some [f, f, t, f], .move (.s [f, t]), none⟩,
  ⟨some [t, f, t, f], .fieldAddr 1 (.s [f]), none⟩,
  ⟨some [f, t, t, f], .idxArr 8 8 (.s [t, f, t, f]) (.s [t, t, f, f]), none⟩,
  ⟨some [t, t, t, f], .idxArr 8 1 (.s [f, t, t, f]) (.s [f, f, t, f]), none⟩,
  ⟨some [f, f, f, t], .load none (.s [t, t, t, f]), none⟩,
  ⟨some [t, f, f, t], .bin .gtr (.s [f, f, f, t]) (.c (.int .i64 0)), none⟩,
  ⟨some [f, t, f, t], .idxArr 8 8 (.s [f, f]) (.s [t, f, f, f]), none⟩,
  ⟨some [t, t, f, t], .idxArr 8 1 (.s [f, t, f, t]) (.s [f, t, f, f]), none⟩,
  ⟨none, .store 1 (.s [t, t, f, t]) (.s [t, f, f, t]), none⟩]
  [] [[], [], [], [], [], [2, 4], [2, 3, 4, 5], [2, 3, 4, 5, 6], [2, 3, 4, 5, 6, 7], [0], (r 10), (r 11)]) : CCode)) false true
def c64_o9 : CCode := (fun (f t : Bool) => (.trim [[f], [t], [f, f], [t, f], [f, f, f], [t, f, f], [t, f, t], [f, t, t]] (.ops [
  ⟨some [f, f, t, t], .bin .add (.s [f, t, t]) (.c (.int .i64 1)), none⟩,
  ⟨some [f, t, t], .move (.s [f, f, t, t]), none⟩]) : CCode)) false true
def c64_b0 : CCode := (fun (f t : Bool) => ((.seq c64_o6
 (.seq (.cond (.s [t, t, t]) .skip (.exit 2))
 (.seq (.block 3 (.seq c64_o7
 c64_o8))
 c64_o9))) : CCode)) false true
def c64_l0 : CCode := (fun (f t : Bool) => (.loop [[f], [t], [f, f], [t, f], [f, f, f], [t, f, f], [t, f, t], [f, t, t]] c64_b0 : CCode)) false true
def c64_o10 : CCode := (fun (f t : Bool) => (.trim [[f], [t], [f, f], [f, f, f], [t, f, f]] (.ops [
  ⟨some [t, f, t, t], .bin .add (.s [t, f, f]) (.c (.int .i64 1)), none⟩,
  ⟨some [t, f, f], .move (.s [t, f, t, t]), none⟩]) : CCode)) false true
def c64_b1 : CCode := (fun (f t : Bool) => ((.seq c64_o3
 (.seq (.cond (.s [f, t, f]) .skip (.exit 0))
 (.seq (.block 1 (.seq c64_o4
 (.seq c64_o5
 (.block 2 c64_l0))))
 c64_o10))) : CCode)) false true
def c64_l1 : CCode := (fun (f t : Bool) => (.loop [[f], [t], [f, f], [f, f, f], [t, f, f]] c64_b1 : CCode)) false true
def c64_o11 : CCode := (fun (f t : Bool) => (.trim [[t], [f, f]] (.ops [
  ⟨some [f, t, t, t], .load (some 64) (.s [f, f]), none⟩,
  ⟨none, .store 64 (.s [t]) (.s [f, t, t, t]), none⟩]) : CCode)) false true
def c64 : CFunc := (fun (f t : Bool) => ({ params := [[]], results := [.cell [t] (some 64)], shared := f, body := (.seq c64_o0
 (.seq c64_o1
 (.seq (.seq c64_o2
 (.block 0 c64_l1))
 (.seq c64_o11
 .ret)))) } : CFunc)) false true
def c65_o0 : CCode := (fun (f t : Bool) => (.trim [[], [f]] (.ops [
  ⟨some [t], .box none (.s []), none⟩,
  ⟨some [f, f], .box none (.s [f]), none⟩,
  ⟨some [t, f], .alloc none (List.replicate 64 (.bool f)), none⟩]) : CCode)) false true
def c65_o1 : CCode := (fun (f t : Bool) => (.trim [[t], [f, f], [t, f]] (.ops [
  ⟨some [f, t], .alloc none (List.replicate 64 (.bool f)), none⟩]) : CCode)) false true
def c65_o2 : CCode := (fun (f t : Bool) => (.trim [[t], [f, f], [t, f], [f, t]] (.ops [
  ⟨some [f, t, f], .move (.c (.int .i64 0)), none⟩]) : CCode)) false true
def c65_o3 : CCode := (fun (f t : Bool) => (.trim [[t], [f, f], [t, f], [f, t], [f, t, f]] (.ops [
  ⟨some [t, t, f], .bin .lss (.s [f, t, f]) (.c (.int .i64 8)), none⟩]) : CCode)) false true
def c65_o4 : CCode := (fun (f t : Bool) => (.trim [[t], [f, f], [t, f], [f, t], [f, t, f]] (.ops [
  ⟨some [f, f, t], .move (.s [f, t, f]), none⟩,
  ⟨some [t, t], .move (.s [f, f, t]), none⟩]) : CCode)) false true
def c65_o5 : CCode := (fun (f t : Bool) => (.trim [[t], [f, f], [t, f], [f, t], [t, t], [f, t, f]] (.ops [
  ⟨some [t, f, t], .move (.c (.int .i64 0)), none⟩]) : CCode)) false true
def c65_o6 : CCode := (fun (f t : Bool) => (.trim [[t], [f, f], [t, f], [f, t], [t, t], [f, t, f], [t, f, t]] (.ops [
  ⟨some [f, t, t], .bin .lss (.s [t, f, t]) (.c (.int .i64 8)), none⟩]) : CCode)) false true
def c65_o7 : CCode := (fun (f t : Bool) => (.trim [[t], [f, f], [t, f], [f, t], [t, t], [f, t, f], [t, f, t]] (.ops [
  ⟨some [t, t, t], .move (.s [t, f, t]), none⟩,
  ⟨some [f, f, f], .move (.s [t, t, t]), none⟩]) : CCode)) false true
def c65_o8 : CCode := (fun (f t : Bool) => (.trim [[t], [f, f], [t, f], [f, t], [t, t], [f, f, f], [f, t, f], [t, f, t]] (.ops [
  ⟨some [f, f, f, f], .move (.c (.int .i64 0)), none⟩]) : CCode)) false true
def c65_o9 : CCode := (fun (f t : Bool) => (.trim [[t], [f, f], [t, f], [f, t], [t, t], [f, f, f], [f, t, f], [t, f, t], [f, f, f, f]] (.ops [
  ⟨some [t, f, f, f], .bin .lss (.s [f, f, f, f]) (.c (.int .i64 8)), none⟩]) : CCode)) false true
def c65_o10 : CCode := (fun (f t : Bool) => (.trim [[t], [f, f], [t, f], [f, t], [t, t], [f, f, f], [f, t, f], [t, f, t], [f, f, f, f]] (.ops [
  ⟨some [f, t, f, f], .move (.s [f, f, f, f]), none⟩,
  ⟨some [t, f, f], .move (.s [f, t, f, f]), none⟩]) : CCode)) false true
def c65_o11 : CCode := (fun (f t : Bool) => (.trim [[t], [f, f], [t, f], [f, t], [t, t], [f, f, f], [t, f, f], [f, t, f], [t, f, t], [f, f, f, f]] (.draw 0 [
  ⟨some [t, t, f, f], .move (.s [t, t]), none⟩,
  ⟨some [f, f, t, f], .move (.s [f, f, f]), none⟩,
  ⟨some [t, f, t, f], .move (.s [t, t]), none⟩,
  ⟨some [f, t, t, f], .move (.s [f, f, f]), none⟩,
  ⟨some [t, t, t, f], .idxArr 8 8 (.s [f, t]) (.s [t, f, t, f]), none⟩,
  ⟨some [f, f, f, t], .idxArr 8 1 (.s [t, t, t, f]) (.s [f, t, t, f]), none⟩,
  ⟨some [t, f, f, t], .load none (.s [f, f, f, t]), none⟩,
  ⟨some [f, t, f, t], .move (.s [t, f, f, t]), none⟩,
  ⟨some [t, t, f, t], .move (.s [t, t]), some ([f, t, f, t], f)⟩,
  ⟨some [f, f, t, t], .move (.s [t, f, f]), some ([f, t, f, t], f)⟩,
  ⟨some [t, f, t, t], .idxArr 8 8 (.s [t]) (.s [t, t, f, t]), some ([f, t, f, t], f)⟩,
  ⟨some [f, t, t, t], .idxArr 8 1 (.s [t, f, t, t]) (.s [f, f, t, t]), some ([f, t, f, t], f)⟩,
  ⟨some [t, t, t, t], .load none (.s [f, t, t, t]), some ([f, t, f, t], f)⟩,
  ⟨some [f, f, f, f, f], .move (.s [t, t, t, t]), some ([f, t, f, t], f)⟩,
  ⟨some [t, f, f, f, f], .move (.s [t, f, f]), some ([f, f, f, f, f], t)⟩,
  ⟨some [f, t, f, f, f], .move (.s [f, f, f]), some ([f, f, f, f, f], t)⟩,
  ⟨some [t, t, f, f, f], .idxArr 8 8 (.s [f, f]) (.s [t, f, f, f, f]), some ([f, f, f, f, f], t)⟩,
  ⟨some [f, f, t, f, f], .idxArr 8 1 (.s [t, t, f, f, f]) (.s [f, t, f, f, f]), some ([f, f, f, f, f], t)⟩,
  ⟨some [t, f, t, f, f], .load none (.s [f, f, t, f, f]), some ([f, f, f, f, f], t)⟩,
  ⟨some [f, t, t, f, f], .pick (.s [f, f, f, f, f]) (.s [t, f, t, f, f]) (.c (.bool f)), some ([f, t, f, t], f)⟩,
  ⟨some [t, t, t, f, f], .pick (.s [f, t, f, t]) (.c (.bool t)) (.s [f, t, t, f, f]), none⟩,
  ⟨some [f, f, f, t, f], .idxArr 8 8 (.s [f, t]) (.s [t, t, f, f]), none⟩,
  ⟨some [t, f, f, t, f], .idxArr 8 1 (.s [f, f, f, t, f]) (.s [f, f, t, f]), none⟩,
  ⟨none, .store 1 (.s [t, f, f, t, f]) (.s [t, t, t, f, f]), none⟩]
  [] [[], [], [], [], [2], [2, 3, 4], [2, 3, 4, 5], [2, 3, 4, 5, 6], [2, 3, 4, 5, 6, 7], [2, 3, 4, 5, 6, 7], [2, 3, 4, 5, 6, 7, 8], [2, 3, 4, 5, 6, 7, 8, 9, 10], [2, 3, 4, 5, 6, 7, 8, 9, 10, 11], [2, 3, 4, 5, 6, 7, 8, 9, 10, 11, 12], [2, 3, 4, 5, 6, 7, 8, 9, 10, 11, 12, 13], [2, 3, 4, 5, 6, 7, 8, 9, 10, 11, 12, 13], [2, 3, 4, 5, 6, 7, 8, 9, 10, 11, 12, 13, 14], [2, 3, 4, 5, 6, 7, 8, 9, 10, 11, 12, 13, 14, 15, 16], [2, 3, 4, 5, 6, 7, 8, 9, 10, 11, 12, 13, 14, 15, 16, 17], [2, 3, 4, 5, 6, 7, 8, 9, 10, 11, 12, 13, 14, 15, 16, 17, 18], [2, 3, 4, 5, 6, 7, 8, 9, 10, 11, 12, 13, 14, 15, 16, 17, 18, 19], [0], (r 22), (r 23)]) : CCode)) false true
def c65_o12 : CCode := (fun (f t : Bool) => (.trim [[t], [f, f], [t, f], [f, t], [t, t], [f, f, f], [f, t, f], [t, f, t], [f, f, f, f]] (.ops [
  ⟨some [f, t, f, t, f], .bin .add (.s [f, f, f, f]) (.c (.int .i64 1)), none⟩,
  ⟨some [f, f, f, f], .move (.s [f, t, f, t, f]), none⟩]) : CCode)) false true
def c65_b0 : CCode := (fun (f t : Bool) => ((.seq c65_o9
 (.seq (.cond (.s [t, f, f, f]) .skip (.exit 4))
 (.seq (.block 5 (.seq c65_o10
 c65_o11))
 c65_o12))) : CCode)) false true
def c65_l0 : CCode := (fun (f t : Bool) => (.loop [[t], [f, f], [t, f], [f, t], [t, t], [f, f, f], [f, t, f], [t, f, t], [f, f, f, f]] c65_b0 : CCode)) false true
def c65_o13 : CCode := (fun (f t : Bool) => (.trim [[t], [f, f], [t, f], [f, t], [t, t], [f, t, f], [t, f, t]] (.ops [
  ⟨some [t, t, f, t, f], .bin .add (.s [t, f, t]) (.c (.int .i64 1)), none⟩,
  ⟨some [t, f, t], .move (.s [t, t, f, t, f]), none⟩]) : CCode)) false true
def c65_b1 : CCode := (fun (f t : Bool) => ((.seq c65_o6
 (.seq (.cond (.s [f, t, t]) .skip (.exit 2))
 (.seq (.block 3 (.seq c65_o7
 (.seq c65_o8
 (.block 4 c65_l0))))
 c65_o13))) : CCode)) false true
def c65_l1 : CCode := (fun (f t : Bool) => (.loop [[t], [f, f], [t, f], [f, t], [t, t], [f, t, f], [t, f, t]] c65_b1 : CCode)) false true
def c65_o14 : CCode := (fun (f t : Bool) => (.trim [[t], [f, f], [t, f], [f, t], [f, t, f]] (.ops [
  ⟨some [f, f, t, t, f], .bin .add (.s [f, t, f]) (.c (.int .i64 1)), none⟩,
  ⟨some [f, t, f], .move (.s [f, f, t, t, f]), none⟩]) : CCode)) false true
def c65_b2 : CCode := (fun (f t : Bool) => ((.seq c65_o3
 (.seq (.cond (.s [t, t, f]) .skip (.exit 0))
 (.seq (.block 1 (.seq c65_o4
 (.seq c65_o5
 (.block 2 c65_l1))))
 c65_o14))) : CCode)) false true
def c65_l2 : CCode := (fun (f t : Bool) => (.loop [[t], [f, f], [t, f], [f, t], [f, t, f]] c65_b2 : CCode)) false true
def c65_o15 : CCode := (fun (f t : Bool) => (.trim [[t, f], [f, t]] (.ops [
  ⟨some [t, f, t, t, f], .load (some 64) (.s [f, t]), none⟩,
  ⟨none, .store 64 (.s [t, f]) (.s [t, f, t, t, f]), none⟩]) : CCode)) false true
def c65 : CFunc := (fun (f t : Bool) => ({ params := [[], [f]], results := [.cell [t, f] (some 64)], shared := f, body := (.seq c65_o0
 (.seq c65_o1
 (.seq (.seq c65_o2
 (.block 0 c65_l2))
 (.seq c65_o15
 .ret)))) } : CFunc)) false true
def c67_o0 : CCode := (fun (f t : Bool) => (.trim [[]] (.ops [
  ⟨some [f], .box none (.s []), none⟩,
  ⟨some [t], .alloc none (List.replicate 64 (.bool f)), none⟩]) : CCode)) false true
def c67_o1 : CCode := (fun (f t : Bool) => (.trim [[f], [t]] (.ops [
  ⟨some [t, f, f], .load (some 65) (.s [f]), none⟩,
  ⟨some [f, t, f], .call f (.c (.func 64 [])) [(.s [t, f, f])], none⟩,
  ⟨some [f, f], .alloc none (List.replicate 64 (.bool f)), none⟩,
  ⟨none, .store 64 (.s [f, f]) (.s [f, t, f]), none⟩]) : CCode)) false true
def c67_o2 : CCode := (fun (f t : Bool) => (.trim [[f], [t], [f, f]] (.ops [
  ⟨some [t, t, f], .fieldAddr 0 (.s [f]), none⟩,
  ⟨some [f, f, t], .load none (.s [t, t, f]), none⟩,
  ⟨some [t, f, t], .move (.c (.int .i64 0)), none⟩]) : CCode)) false true
def c67_o3 : CCode := (fun (f t : Bool) => (.trim [[f], [t], [f, f], [f, f, t], [t, f, t]] (.ops [
  ⟨some [f, t, t], .bin .lss (.s [t, f, t]) (.s [f, f, t]), none⟩]) : CCode)) false true
def c67_o4 : CCode := (fun (f t : Bool) => (.trim [[f], [t], [f, f], [f, f, t], [t, f, t]] (.ops [
  ⟨some [t, t, t], .move (.s [t, f, t]), none⟩,
  ⟨some [t, f], .move (.s [t, t, t]), none⟩]) : CCode)) false true
def c67_o5 : CCode := (fun (f t : Bool) => (.trim [[f], [t], [f, f], [t, f], [f, f, t], [t, f, t]] (.ops [
  ⟨some [f, f, f, f], .move (.s [t, f]), none⟩,
  ⟨some [t, f, f, f], .move (.s [t, f]), none⟩,
  ⟨some [f, t, f, f], .idxArr 8 8 (.s [f, f]) (.s [f, f, f, f]), none⟩,
  ⟨some [t, t, f, f], .idxArr 8 1 (.s [f, t, f, f]) (.s [t, f, f, f]), none⟩,
  ⟨none, .store 1 (.s [t, t, f, f]) (.c (.bool t)), none⟩]) : CCode)) false true
def c67_o6 : CCode := (fun (f t : Bool) => (.trim [[f], [t], [f, f], [f, f, t], [t, f, t]] (.ops [
  ⟨some [f, f, t, f], .bin .add (.s [t, f, t]) (.c (.int .i64 1)), none⟩,
  ⟨some [t, f, t], .move (.s [f, f, t, f]), none⟩]) : CCode)) false true
def c67_b0 : CCode := (fun (f t : Bool) => ((.seq c67_o3
 (.seq (.cond (.s [f, t, t]) .skip (.exit 0))
 (.seq (.block 1 (.seq c67_o4
 c67_o5))
 c67_o6))) : CCode)) false true
def c67_l0 : CCode := (fun (f t : Bool) => (.loop [[f], [t], [f, f], [f, f, t], [t, f, t]] c67_b0 : CCode)) false true
def c67_o7 : CCode := (fun (f t : Bool) => (.trim [[f], [t], [f, f]] (.ops [
  ⟨some [t, f, t, f], .fieldAddr 0 (.s [f]), none⟩,
  ⟨some [f, t, t, f], .load none (.s [t, f, t, f]), none⟩,
  ⟨some [t, t, t, f], .move (.c (.int .i64 0)), none⟩]) : CCode)) false true
def c67_o8 : CCode := (fun (f t : Bool) => (.trim [[f], [t], [f, f], [f, t, t, f], [t, t, t, f]] (.ops [
  ⟨some [f, f, f, t], .bin .lss (.s [t, t, t, f]) (.s [f, t, t, f]), none⟩]) : CCode)) false true
def c67_o9 : CCode := (fun (f t : Bool) => (.trim [[f], [t], [f, f], [f, t, t, f], [t, t, t, f]] (.ops [
  ⟨some [t, f, f, t], .move (.s [t, t, t, f]), none⟩,
  ⟨some [f, t], .move (.s [t, f, f, t]), none⟩]) : CCode)) false true
def c67_o10 : CCode := (fun (f t : Bool) => (.trim [[f], [t], [f, f], [f, t], [f, t, t, f], [t, t, t, f]] (.ops [
  ⟨some [f, t, f, t], .fieldAddr 0 (.s [f]), none⟩,
  ⟨some [t, t, f, t], .load none (.s [f, t, f, t]), none⟩,
  ⟨some [f, f, t, t], .move (.c (.int .i64 0)), none⟩]) : CCode)) false true
def c67_o11 : CCode := (fun (f t : Bool) => (.trim [[f], [t], [f, f], [f, t], [f, t, t, f], [t, t, t, f], [t, t, f, t], [f, f, t, t]] (.ops [
  ⟨some [t, f, t, t], .bin .lss (.s [f, f, t, t]) (.s [t, t, f, t]), none⟩]) : CCode)) false true
def c67_o12 : CCode := (fun (f t : Bool) => (.trim [[f], [t], [f, f], [f, t], [f, t, t, f], [t, t, t, f], [t, t, f, t], [f, f, t, t]] (.ops [
  ⟨some [f, t, t, t], .move (.s [f, f, t, t]), none⟩,
  ⟨some [t, t], .move (.s [f, t, t, t]), none⟩]) : CCode)) false true
def c67_o13 : CCode := (fun (f t : Bool) => (.trim [[f], [t], [f, f], [f, t], [t, t], [f, t, t, f], [t, t, t, f], [t, t, f, t], [f, f, t, t]] (.ops [
  ⟨some [t, t, t, t], .fieldAddr 0 (.s [f]), none⟩,
  ⟨some [f, f, f, f, f], .load none (.s [t, t, t, t]), none⟩,
  ⟨some [t, f, f, f, f], .move (.c (.int .i64 0)), none⟩]) : CCode)) false true
def c67_o14 : CCode := (fun (f t : Bool) => (.trim [[f], [t], [f, f], [f, t], [t, t], [f, t, t, f], [t, t, t, f], [t, t, f, t], [f, f, t, t], [f, f, f, f, f], [t, f, f, f, f]] (.ops [
  ⟨some [f, t, f, f, f], .bin .lss (.s [t, f, f, f, f]) (.s [f, f, f, f, f]), none⟩]) : CCode)) false true
def c67_o15 : CCode := (fun (f t : Bool) => (.trim [[f], [t], [f, f], [f, t], [t, t], [f, t, t, f], [t, t, t, f], [t, t, f, t], [f, f, t, t], [f, f, f, f, f], [t, f, f, f, f]] (.ops [
  ⟨some [t, t, f, f, f], .move (.s [t, f, f, f, f]), none⟩,
  ⟨some [f, f, f], .move (.s [t, t, f, f, f]), none⟩]) : CCode)) false true
def c67_o16 : CCode := (fun (f t : Bool) => (.trim [[f], [t], [f, f], [f, t], [t, t], [f, f, f], [f, t, t, f], [t, t, t, f], [t, t, f, t], [f, f, t, t], [f, f, f, f, f], [t, f, f, f, f]] (.draw 0 [
  ⟨some [f, f, t, f, f], .move (.s [t, t]), none⟩,
  ⟨some [t, f, t, f, f], .move (.s [f, f, f]), none⟩,
  ⟨some [f, t, t, f, f], .move (.s [t, t]), none⟩,
  ⟨some [t, t, t, f, f], .move (.s [f, f, f]), none⟩,
  ⟨some [f, f, f, t, f], .idxArr 8 8 (.s [f, f]) (.s [f, t, t, f, f]), none⟩,
  ⟨some [t, f, f, t, f], .idxArr 8 1 (.s [f, f, f, t, f]) (.s [t, t, t, f, f]), none⟩,
  ⟨some [f, t, f, t, f], .load none (.s [t, f, f, t, f]), none⟩,
  ⟨some [t, t, f, t, f], .move (.s [f, t, f, t, f]), none⟩,
  ⟨some [f, f, t, t, f], .move (.s [t, t]), some ([t, t, f, t, f], f)⟩,
  ⟨some [t, f, t, t, f], .move (.s [f, t]), some ([t, t, f, t, f], f)⟩,
  ⟨some [f, t, t, t, f], .idxArr 8 8 (.s [f, f]) (.s [f, f, t, t, f]), some ([t, t, f, t, f], f)⟩,
  ⟨some [t, t, t, t, f], .idxArr 8 1 (.s [f, t, t, t, f]) (.s [t, f, t, t, f]), some ([t, t, f, t, f], f)⟩,
  ⟨some [f, f, f, f, t], .load none (.s [t, t, t, t, f]), some ([t, t, f, t, f], f)⟩,
  ⟨some [t, f, f, f, t], .move (.s [f, f, f, f, t]), some ([t, t, f, t, f], f)⟩,
  ⟨some [f, t, f, f, t], .move (.s [f, t]), some ([t, f, f, f, t], t)⟩,
  ⟨some [t, t, f, f, t], .move (.s [f, f, f]), some ([t, f, f, f, t], t)⟩,
  ⟨some [f, f, t, f, t], .idxArr 8 8 (.s [f, f]) (.s [f, t, f, f, t]), some ([t, f, f, f, t], t)⟩,
  ⟨some [t, f, t, f, t], .idxArr 8 1 (.s [f, f, t, f, t]) (.s [t, t, f, f, t]), some ([t, f, f, f, t], t)⟩,
  ⟨some [f, t, t, f, t], .load none (.s [t, f, t, f, t]), some ([t, f, f, f, t], t)⟩,
  ⟨some [t, t, t, f, t], .pick (.s [t, f, f, f, t]) (.s [f, t, t, f, t]) (.c (.bool f)), some ([t, t, f, t, f], f)⟩,
  ⟨some [f, f, f, t, t], .pick (.s [t, t, f, t, f]) (.c (.bool t)) (.s [t, t, t, f, t]), none⟩,
  ⟨some [t, f, f, t, t], .idxArr 8 8 (.s [f, f]) (.s [f, f, t, f, f]), none⟩,
  ⟨some [f, t, f, t, t], .idxArr 8 1 (.s [t, f, f, t, t]) (.s [t, f, t, f, f]), none⟩,
  ⟨none, .store 1 (.s [f, t, f, t, t]) (.s [f, f, f, t, t]), none⟩]
  [] [[], [], [], [], [2], [2, 3, 4], [2, 3, 4, 5], [2, 3, 4, 5, 6], [2, 3, 4, 5, 6, 7], [2, 3, 4, 5, 6, 7], [2, 3, 4, 5, 6, 7, 8], [2, 3, 4, 5, 6, 7, 8, 9, 10], [2, 3, 4, 5, 6, 7, 8, 9, 10, 11], [2, 3, 4, 5, 6, 7, 8, 9, 10, 11, 12], [2, 3, 4, 5, 6, 7, 8, 9, 10, 11, 12, 13], [2, 3, 4, 5, 6, 7, 8, 9, 10, 11, 12, 13], [2, 3, 4, 5, 6, 7, 8, 9, 10, 11, 12, 13, 14], [2, 3, 4, 5, 6, 7, 8, 9, 10, 11, 12, 13, 14, 15, 16], [2, 3, 4, 5, 6, 7, 8, 9, 10, 11, 12, 13, 14, 15, 16, 17], [2, 3, 4, 5, 6, 7, 8, 9, 10, 11, 12, 13, 14, 15, 16, 17, 18], [2, 3, 4, 5, 6, 7, 8, 9, 10, 11, 12, 13, 14, 15, 16, 17, 18, 19], [0], (r 22), (r 23)]) : CCode)) false true
def c67_o17 : CCode := (fun (f t : Bool) => (.trim [[f], [t], [f, f], [f, t], [t, t], [f, t, t, f], [t, t, t, f], [t, t, f, t], [f, f, t, t], [f, f, f, f, f], [t, f, f, f, f]] (.ops [
  ⟨some [t, t, f, t, t], .bin .add (.s [t, f, f, f, f]) (.c (.int .i64 1)), none⟩,
  ⟨some [t, f, f, f, f], .move (.s [t, t, f, t, t]), none⟩]) : CCode)) false true
def c67_b1 : CCode := (fun (f t : Bool) => ((.seq c67_o14
 (.seq (.cond (.s [f, t, f, f, f]) .skip (.exit 6))
 (.seq (.block 7 (.seq c67_o15
 c67_o16))
 c67_o17))) : CCode)) false true
def c67_l1 : CCode := (fun (f t : Bool) => (.loop [[f], [t], [f, f], [f, t], [t, t], [f, t, t, f], [t, t, t, f], [t, t, f, t], [f, f, t, t], [f, f, f, f, f], [t, f, f, f, f]] c67_b1 : CCode)) false true
def c67_o18 : CCode := (fun (f t : Bool) => (.trim [[f], [t], [f, f], [f, t], [f, t, t, f], [t, t, t, f], [t, t, f, t], [f, f, t, t]] (.ops [
  ⟨some [f, f, t, t, t], .bin .add (.s [f, f, t, t]) (.c (.int .i64 1)), none⟩,
  ⟨some [f, f, t, t], .move (.s [f, f, t, t, t]), none⟩]) : CCode)) false true
def c67_b2 : CCode := (fun (f t : Bool) => ((.seq c67_o11
 (.seq (.cond (.s [t, f, t, t]) .skip (.exit 4))
 (.seq (.block 5 (.seq c67_o12
 (.seq c67_o13
 (.block 6 c67_l1))))
 c67_o18))) : CCode)) false true
def c67_l2 : CCode := (fun (f t : Bool) => (.loop [[f], [t], [f, f], [f, t], [f, t, t, f], [t, t, t, f], [t, t, f, t], [f, f, t, t]] c67_b2 : CCode)) false true
def c67_o19 : CCode := (fun (f t : Bool) => (.trim [[f], [t], [f, f], [f, t, t, f], [t, t, t, f]] (.ops [
  ⟨some [t, f, t, t, t], .bin .add (.s [t, t, t, f]) (.c (.int .i64 1)), none⟩,
  ⟨some [t, t, t, f], .move (.s [t, f, t, t, t]), none⟩]) : CCode)) false true
def c67_b3 : CCode := (fun (f t : Bool) => ((.seq c67_o8
 (.seq (.cond (.s [f, f, f, t]) .skip (.exit 2))
 (.seq (.block 3 (.seq c67_o9
 (.seq c67_o10
 (.block 4 c67_l2))))
 c67_o19))) : CCode)) false true
def c67_l3 : CCode := (fun (f t : Bool) => (.loop [[f], [t], [f, f], [f, t, t, f], [t, t, t, f]] c67_b3 : CCode)) false true
def c67_o20 : CCode := (fun (f t : Bool) => (.trim [[t], [f, f]] (.ops [
  ⟨some [f, t, t, t, t], .load (some 64) (.s [f, f]), none⟩,
  ⟨none, .store 64 (.s [t]) (.s [f, t, t, t, t]), none⟩]) : CCode)) false true
def c67 : CFunc := (fun (f t : Bool) => ({ params := [[]], results := [.cell [t] (some 64)], shared := f, body := (.seq c67_o0
 (.seq c67_o1
 (.seq (.seq c67_o2
 (.block 0 c67_l0))
 (.seq (.seq c67_o7
 (.block 2 c67_l3))
 (.seq c67_o20
 .ret))))) } : CFunc)) false true
def c68_o0 : CCode := (fun (f t : Bool) => (.trim [[], [f], [t], [f, f], [t, f], [f, t], [t, t]] (.ops [
  ⟨some [t, f, f], .move (.c (.int .i64 0)), none⟩]) : CCode)) false true
def c68_o1 : CCode := (fun (f t : Bool) => (.trim [[], [f], [t], [f, f], [t, f], [f, t], [t, t]] (.ops [
  ⟨some [t, t, t], .load none (.s [f]), none⟩,
  ⟨some [f, f, f, f], .move (.s []), none⟩,
  ⟨some [t, f, f, f], .lookup (.i .i64) (.int .i64 0) t (.s [t, t, t]) (.s [f, f, f, f]), none⟩,
  ⟨some [f, t, t], .move (.s [t, f, f, f]), none⟩,
  ⟨some [f, t, f, f], .extract 0 (.s [f, t, t]), none⟩,
  ⟨some [t, t, f, f], .extract 1 (.s [f, t, t]), none⟩,
  ⟨some [f, t, f], .move (.s [f, t, f, f]), none⟩,
  ⟨some [t, t, f], .move (.s [t, t, f, f]), none⟩]) : CCode)) false true
def c68_o2 : CCode := (fun (f t : Bool) => (.trim [[], [f], [t], [f, f], [t, f], [f, t], [t, t], [t, t, f]] (.ops [
  ⟨some [f, f, t, f], .move (.s [t, t, f]), none⟩,
  ⟨some [t, f, t, f], .un .not (.s [f, f, t, f]), none⟩]) : CCode)) false true
def c68_o3 : CCode := (fun (f t : Bool) => (.trim [[], [f], [t], [f, f], [t, f], [f, t], [t, t]] (.ops [
  ⟨some [f, f, t], .move (.c (.int .i64 0)), none⟩]) : CCode)) false true
def c68_o4 : CCode := (fun (f t : Bool) => (.trim [[], [f], [t], [f, f], [t, f], [f, t], [t, t], [f, f, t]] (.ops [
  ⟨some [f, t, t, f], .fieldAddr 0 (.s [t]), none⟩,
  ⟨some [t, t, t, f], .load none (.s [f, t, t, f]), none⟩,
  ⟨some [f, f, f, t], .move (.c (.int .i64 0)), none⟩]) : CCode)) false true
def c68_o5 : CCode := (fun (f t : Bool) => (.trim [[], [f], [f, f], [t, f], [f, t], [t, t], [f, f, t], [t, t, t, f], [f, f, f, t]] (.ops [
  ⟨some [t, f, f, t], .bin .lss (.s [f, f, f, t]) (.s [t, t, t, f]), none⟩]) : CCode)) false true
def c68_o6 : CCode := (fun (f t : Bool) => (.trim [[], [f], [f, f], [t, f], [f, t], [t, t], [f, f, t], [t, t, t, f], [f, f, f, t]] (.ops [
  ⟨some [f, t, f, t], .move (.s [f, f, f, t]), none⟩,
  ⟨some [t, f, t], .move (.s [f, t, f, t]), none⟩]) : CCode)) false true
def c68_o7 : CCode := (fun (f t : Bool) => (.trim [[], [f], [f, f], [t, f], [f, t], [t, t], [f, f, t], [t, f, t], [t, t, t, f], [f, f, f, t]] (.ops [
  ⟨some [t, t, f, t], .move (.s [t, f, t]), none⟩,
  ⟨some [f, f, t, t], .load none (.s [f, f]), none⟩,
  ⟨some [t, f, t, t], .move (.s [t, f, t]), none⟩,
  ⟨some [f, t, t, t], .idxSl 1 (.s [f, f, t, t]) (.s [t, f, t, t]), none⟩,
  ⟨some [t, t, t, t], .load none (.s [f, t, t, t]), none⟩,
  ⟨some [f, f, f, f, f], .bin .eql (.s [t, t, f, t]) (.s [t, t, t, t]), none⟩,
  ⟨some [t, f, f, f, f], .move (.s [f, f, f, f, f]), none⟩,
  ⟨some [f, t, f, f, f], .move (.s [t, f, t]), some ([t, f, f, f, f], t)⟩,
  ⟨some [t, t, f, f, f], .move (.s []), some ([t, f, f, f, f], t)⟩,
  ⟨some [f, f, t, f, f], .bin .neq (.s [f, t, f, f, f]) (.s [t, t, f, f, f]), some ([t, f, f, f, f], t)⟩,
  ⟨some [t, f, t, f, f], .pick (.s [t, f, f, f, f]) (.s [f, f, t, f, f]) (.c (.bool f)), none⟩,
  ⟨some [f, t, t, f, f], .move (.s [t, f, t, f, f]), none⟩,
  ⟨some [t, t, t, f, f], .move (.s []), some ([f, t, t, f, f], t)⟩,
  ⟨some [f, f, f, t, f], .move (.s [t, f, t]), some ([f, t, t, f, f], t)⟩,
  ⟨some [t, f, f, t, f], .idxArr 8 8 (.s [t, f]) (.s [t, t, t, f, f]), some ([f, t, t, f, f], t)⟩,
  ⟨some [f, t, f, t, f], .idxArr 8 1 (.s [t, f, f, t, f]) (.s [f, f, f, t, f]), some ([f, t, t, f, f], t)⟩,
  ⟨some [t, t, f, t, f], .load none (.s [f, t, f, t, f]), some ([f, t, t, f, f], t)⟩,
  ⟨some [f, f, t, t, f], .pick (.s [f, t, t, f, f]) (.s [t, t, f, t, f]) (.c (.bool f)), none⟩]) : CCode)) false true
def c68_o8 : CCode := (fun (f t : Bool) => (.trim [[], [f], [f, f], [t, f], [f, t], [t, t], [f, f, t], [t, f, t], [t, t, t, f], [f, f, f, t]] (.ops [
  ⟨some [t, f, t, t, f], .move (.s [f, f, t]), none⟩,
  ⟨some [f, t, t, t, f], .load none (.s [f, t]), none⟩,
  ⟨some [t, t, t, t, f], .move (.s [t, f, t]), none⟩,
  ⟨some [f, f, f, f, t], .call f (.s [f, t, t, t, f]) [(.s [t, t, t, t, f])], none⟩,
  ⟨some [t, f, f, f, t], .minmax t (.s [t, f, t, t, f]) (.s [f, f, f, f, t]), none⟩,
  ⟨some [f, f, t], .move (.s [t, f, f, f, t]), none⟩]) : CCode)) false true
def c68_o9 : CCode := (fun (f t : Bool) => (.trim [[], [f], [f, f], [t, f], [f, t], [t, t], [f, f, t], [t, t, t, f], [f, f, f, t]] (.ops [
  ⟨some [f, t, f, f, t], .bin .add (.s [f, f, f, t]) (.c (.int .i64 1)), none⟩,
  ⟨some [f, f, f, t], .move (.s [f, t, f, f, t]), none⟩]) : CCode)) false true
def c68_b0 : CCode := (fun (f t : Bool) => ((.seq c68_o5
 (.seq (.cond (.s [t, f, f, t]) .skip (.exit 0))
 (.seq (.block 1 (.seq c68_o6
 (.seq c68_o7
 (.cond (.s [f, f, t, t, f]) c68_o8 .skip))))
 c68_o9))) : CCode)) false true
def c68_l0 : CCode := (fun (f t : Bool) => (.loop [[], [f], [f, f], [t, f], [f, t], [t, t], [f, f, t], [t, t, t, f], [f, f, f, t]] c68_b0 : CCode)) false true
def c68_o10 : CCode := (fun (f t : Bool) => (.trim [[], [f], [t, t], [f, f, t]] (.ops [
  ⟨some [t, t, f, f, t], .load none (.s [t, t]), none⟩,
  ⟨some [f, f, t, f, t], .move (.s []), none⟩,
  ⟨some [t, f, t, f, t], .lookup (.i .i64) (.bool f) f (.s [t, t, f, f, t]) (.s [f, f, t, f, t]), none⟩]) : CCode)) false true
def c68_o11 : CCode := (fun (f t : Bool) => (.trim [[], [f], [f, f, t]] (.ops [
  ⟨some [f, t, t, f, t], .move (.s [f, f, t]), none⟩,
  ⟨some [t, t, t, f, t], .bin .add (.s [f, t, t, f, t]) (.c (.int .i64 1)), none⟩,
  ⟨some [f, f, t], .move (.s [t, t, t, f, t]), none⟩]) : CCode)) false true
def c68_o12 : CCode := (fun (f t : Bool) => (.trim [[], [f], [f, f, t]] (.ops [
  ⟨some [f, f, f, t, t], .load none (.s [f]), none⟩,
  ⟨some [t, f, f, t, t], .move (.s []), none⟩,
  ⟨some [f, t, f, t, t], .move (.s [f, f, t]), none⟩,
  ⟨none, .mapUpdate (.i .i64) (.s [f, f, f, t, t]) (.s [t, f, f, t, t]) (.s [f, t, f, t, t]), none⟩]) : CCode)) false true
def c68_o13 : CCode := (fun (f t : Bool) => (.trim [[], [f]] (.ops [
  ⟨some [t, t, f, t, t], .load none (.s [f]), none⟩,
  ⟨some [f, f, t, t, t], .move (.s []), none⟩,
  ⟨some [t, f, t, t, t], .lookup (.i .i64) (.int .i64 0) f (.s [t, t, f, t, t]) (.s [f, f, t, t, t]), none⟩,
  ⟨some [t, f, f], .move (.s [t, f, t, t, t]), none⟩]) : CCode)) false true
def c68 : CFunc := (fun (f t : Bool) => ({ params := [[], [f], [t], [f, f], [t, f], [f, t], [t, t]], results := [.slot [t, f, f]], shared := t, body := (.seq c68_o0
 (.seq (.seq c68_o1
 (.seq c68_o2
 (.cond (.s [t, f, t, f]) (.seq c68_o3
 (.seq (.seq c68_o4
 (.block 0 c68_l0))
 (.seq (.seq c68_o10
 (.cond (.s [t, f, t, f, t]) c68_o11 .skip))
 c68_o12))) .skip)))
 (.seq c68_o13
 .ret))) } : CFunc)) false true
def c72_o0 : CCode := (fun (f t : Bool) => (.trim [[]] (.ops [
  ⟨some [f], .box none (.s []), none⟩,
  ⟨some [t], .alloc none (List.replicate 64 (.int .i64 0)), none⟩]) : CCode)) false true
def c72_o1 : CCode := (fun (f t : Bool) => (.trim [[f], [t]] (.ops [
  ⟨some [f, f], .alloc none (List.replicate 64 (.int .i64 0)), none⟩]) : CCode)) false true
def c72_o2 : CCode := (fun (f t : Bool) => (.trim [[f], [t], [f, f]] (.ops [
  ⟨some [f, t], .fieldAddr 0 (.s [f]), none⟩,
  ⟨some [t, t], .load none (.s [f, t]), none⟩,
  ⟨some [f, f, f], .move (.c (.int .i64 0)), none⟩]) : CCode)) false true
def c72_o3 : CCode := (fun (f t : Bool) => (.trim [[t], [f, f], [t, t], [f, f, f]] (.ops [
  ⟨some [t, f, f], .bin .lss (.s [f, f, f]) (.s [t, t]), none⟩]) : CCode)) false true
def c72_o4 : CCode := (fun (f t : Bool) => (.trim [[t], [f, f], [t, t], [f, f, f]] (.ops [
  ⟨some [f, t, f], .move (.s [f, f, f]), none⟩,
  ⟨some [t, f], .move (.s [f, t, f]), none⟩]) : CCode)) false true
def c72_o5 : CCode := (fun (f t : Bool) => (.trim [[t], [f, f], [t, f], [t, t], [f, f, f]] (.ops [
  ⟨some [t, t, f], .move (.s [t, f]), none⟩,
  ⟨some [f, f, t], .move (.s [t, f]), none⟩,
  ⟨some [t, f, t], .idxArr 8 8 (.s [f, f]) (.s [t, t, f]), none⟩,
  ⟨some [f, t, t], .idxArr 8 1 (.s [t, f, t]) (.s [f, f, t]), none⟩,
  ⟨none, .store 1 (.s [f, t, t]) (.c (.int .i64 1)), none⟩]) : CCode)) false true
def c72_o6 : CCode := (fun (f t : Bool) => (.trim [[t], [f, f], [t, t], [f, f, f]] (.ops [
  ⟨some [t, t, t], .bin .add (.s [f, f, f]) (.c (.int .i64 1)), none⟩,
  ⟨some [f, f, f], .move (.s [t, t, t]), none⟩]) : CCode)) false true
def c72_b0 : CCode := (fun (f t : Bool) => ((.seq c72_o3
 (.seq (.cond (.s [t, f, f]) .skip (.exit 0))
 (.seq (.block 1 (.seq c72_o4
 c72_o5))
 c72_o6))) : CCode)) false true
def c72_l0 : CCode := (fun (f t : Bool) => (.loop [[t], [f, f], [t, t], [f, f, f]] c72_b0 : CCode)) false true
def c72_o7 : CCode := (fun (f t : Bool) => (.trim [[t], [f, f]] (.ops [
  ⟨some [f, f, f, f], .load (some 64) (.s [f, f]), none⟩,
  ⟨none, .store 64 (.s [t]) (.s [f, f, f, f]), none⟩]) : CCode)) false true
def c72 : CFunc := (fun (f t : Bool) => ({ params := [[]], results := [.cell [t] (some 64)], shared := f, body := (.seq c72_o0
 (.seq c72_o1
 (.seq (.seq c72_o2
 (.block 0 c72_l0))
 (.seq c72_o7
 .ret)))) } : CFunc)) false true
def c73_o0 : CCode := (fun (f t : Bool) => (.trim [[], [f], [t]] (.ops [
  ⟨some [f, f], .box none (.s []), none⟩,
  ⟨some [t, f], .box none (.s [f]), none⟩,
  ⟨some [f, t], .box none (.s [t]), none⟩,
  ⟨some [t, t], .alloc none (List.replicate 64 (.int .i64 0)), none⟩,
  ⟨some [f, f, f], .move (.c (.bool f)), none⟩]) : CCode)) false true
def c73_o1 : CCode := (fun (f t : Bool) => (.trim [[f, f], [t, f], [f, t], [t, t]] (.ops [
  ⟨some [t, f, f], .alloc none (List.replicate 64 (.int .i64 0)), none⟩]) : CCode)) false true
def c73_o2 : CCode := (fun (f t : Bool) => (.trim [[f, f], [t, f], [f, t], [t, t], [t, f, f]] (.ops [
  ⟨some [t, t, t], .fieldAddr 0 (.s [f, f]), none⟩,
  ⟨some [f, f, f, f], .load none (.s [t, t, t]), none⟩,
  ⟨some [t, f, f, f], .move (.c (.int .i64 0)), none⟩]) : CCode)) false true
def c73_o3 : CCode := (fun (f t : Bool) => (.trim [[f, f], [t, f], [f, t], [t, t], [t, f, f], [f, f, f, f], [t, f, f, f]] (.ops [
  ⟨some [f, t, f, f], .bin .lss (.s [t, f, f, f]) (.s [f, f, f, f]), none⟩]) : CCode)) false true
def c73_o4 : CCode := (fun (f t : Bool) => (.trim [[f, f], [t, f], [f, t], [t, t], [t, f, f], [f, f, f, f], [t, f, f, f]] (.ops [
  ⟨some [t, t, f, f], .move (.s [t, f, f, f]), none⟩,
  ⟨some [f, t, f], .move (.s [t, t, f, f]), none⟩]) : CCode)) false true
def c73_o5 : CCode := (fun (f t : Bool) => (.trim [[f, f], [t, f], [f, t], [t, t], [t, f, f], [f, t, f], [f, f, f, f], [t, f, f, f]] (.ops [
  ⟨some [f, f, t, f], .fieldAddr 0 (.s [f, f]), none⟩,
  ⟨some [t, f, t, f], .load none (.s [f, f, t, f]), none⟩,
  ⟨some [f, t, t, f], .move (.c (.int .i64 0)), none⟩]) : CCode)) false true
def c73_o6 : CCode := (fun (f t : Bool) => (.trim [[f, f], [t, f], [f, t], [t, t], [t, f, f], [f, t, f], [f, f, f, f], [t, f, f, f], [t, f, t, f], [f, t, t, f]] (.ops [
  ⟨some [t, t, t, f], .bin .lss (.s [f, t, t, f]) (.s [t, f, t, f]), none⟩]) : CCode)) false true
def c73_o7 : CCode := (fun (f t : Bool) => (.trim [[f, f], [t, f], [f, t], [t, t], [t, f, f], [f, t, f], [f, f, f, f], [t, f, f, f], [t, f, t, f], [f, t, t, f]] (.ops [
  ⟨some [f, f, f, t], .move (.s [f, t, t, f]), none⟩,
  ⟨some [t, t, f], .move (.s [f, f, f, t]), none⟩]) : CCode)) false true
def c73_o8 : CCode := (fun (f t : Bool) => (.trim [[f, f], [t, f], [f, t], [t, t], [t, f, f], [f, t, f], [t, t, f], [f, f, f, f], [t, f, f, f], [t, f, t, f], [f, t, t, f]] (.ops [
  ⟨some [t, f, f, t], .fieldAddr 0 (.s [f, f]), none⟩,
  ⟨some [f, t, f, t], .load none (.s [t, f, f, t]), none⟩,
  ⟨some [t, t, f, t], .move (.c (.int .i64 0)), none⟩]) : CCode)) false true
def c73_o9 : CCode := (fun (f t : Bool) => (.trim [[f, f], [t, f], [f, t], [t, t], [t, f, f], [f, t, f], [t, t, f], [f, f, f, f], [t, f, f, f], [t, f, t, f], [f, t, t, f], [f, t, f, t], [t, t, f, t]] (.ops [
  ⟨some [f, f, t, t], .bin .lss (.s [t, t, f, t]) (.s [f, t, f, t]), none⟩]) : CCode)) false true
def c73_o10 : CCode := (fun (f t : Bool) => (.trim [[f, f], [t, f], [f, t], [t, t], [t, f, f], [f, t, f], [t, t, f], [f, f, f, f], [t, f, f, f], [t, f, t, f], [f, t, t, f], [f, t, f, t], [t, t, f, t]] (.ops [
  ⟨some [t, f, t, t], .move (.s [t, t, f, t]), none⟩,
  ⟨some [f, f, t], .move (.s [t, f, t, t]), none⟩]) : CCode)) false true
def c73_o11 : CCode := (fun (f t : Bool) => (.trim [[f, f], [t, f], [f, t], [t, t], [t, f, f], [f, t, f], [t, t, f], [f, f, t], [f, f, f, f], [t, f, f, f], [t, f, t, f], [f, t, t, f], [f, t, f, t], [t, t, f, t]] (.draw 0 [
  ⟨some [f, t, t, t], .move (.s [f, t, f]), none⟩,
  ⟨some [t, t, t, t], .move (.s [f, f, t]), none⟩,
  ⟨some [f, f, f, f, f], .idxArr 8 8 (.s [t, f]) (.s [f, t, t, t]), none⟩,
  ⟨some [t, f, f, f, f], .idxArr 8 1 (.s [f, f, f, f, f]) (.s [t, t, t, t]), none⟩,
  ⟨some [f, t, f, f, f], .load none (.s [t, f, f, f, f]), none⟩,
  ⟨some [t, t, f, f, f], .move (.s [f, f, t]), none⟩,
  ⟨some [f, f, t, f, f], .move (.s [t, t, f]), none⟩,
  ⟨some [t, f, t, f, f], .idxArr 8 8 (.s [f, t]) (.s [t, t, f, f, f]), none⟩,
  ⟨some [f, t, t, f, f], .idxArr 8 1 (.s [t, f, t, f, f]) (.s [f, f, t, f, f]), none⟩,
  ⟨some [t, t, t, f, f], .load none (.s [f, t, t, f, f]), none⟩,
  ⟨some [t, f, t], .move (.s [f, t, f, f, f]), none⟩,
  ⟨some [f, t, t], .move (.s [t, t, t, f, f]), none⟩]
  [(4, 9)] [[], [], [0], [0, 1, 2], [0, 1, 2, 3], [], [], [5], [5, 6, 7], [5, 6, 7, 8], (r 5), (r 11)]) : CCode)) false true
def c73_o12 : CCode := (fun (f t : Bool) => (.trim [[f, f], [t, f], [f, t], [t, t], [t, f, f], [f, t, f], [t, t, f], [t, f, t], [f, t, t], [f, f, f, f], [t, f, f, f], [t, f, t, f], [f, t, t, f], [f, t, f, t], [t, t, f, t]] (.ops [
  ⟨some [f, f, f, t, f], .move (.s [f, t, t]), none⟩,
  ⟨some [t, f, f, t, f], .bin .gtr (.s [f, f, f, t, f]) (.c (.int .i64 0)), none⟩,
  ⟨some [f, t, f, t, f], .move (.s [t, f, f, t, f]), none⟩,
  ⟨some [t, t, f, t, f], .move (.s [t, f, t]), some ([f, t, f, t, f], t)⟩,
  ⟨some [f, f, t, t, f], .move (.s [f, t, t]), some ([f, t, f, t, f], t)⟩,
  ⟨some [t, f, t, t, f], .bin .quo (.c (.int .i64 1152921504606846976)) (.s [f, f, t, t, f]), some ([f, t, f, t, f], t)⟩,
  ⟨some [f, t, t, t, f], .bin .gtr (.s [t, t, f, t, f]) (.s [t, f, t, t, f]), some ([f, t, f, t, f], t)⟩,
  ⟨some [t, t, t, t, f], .pick (.s [f, t, f, t, f]) (.s [f, t, t, t, f]) (.c (.bool f)), none⟩]) : CCode)) false true
def c73_o13 : CCode := (fun (f t : Bool) => (.trim [[t, t]] (.ops [
  ⟨some [f, f, f, f, t], .build (List.replicate 64 (.int .i64 0)) [], none⟩,
  ⟨none, .store 64 (.s [t, t]) (.s [f, f, f, f, t]), none⟩,
  ⟨some [f, f, f], .move (.c (.bool f)), none⟩]) : CCode)) false true
def c73_o14 : CCode := (fun (f t : Bool) => (.trim [[f, f], [t, f], [f, t], [t, t], [t, f, f], [f, t, f], [t, t, f], [t, f, t], [f, t, t], [f, f, f, f], [t, f, f, f], [t, f, t, f], [f, t, t, f], [f, t, f, t], [t, t, f, t]] (.draw 0 [
  ⟨some [t, f, f, f, t], .move (.s [f, t, f]), none⟩,
  ⟨some [f, t, f, f, t], .move (.s [t, t, f]), none⟩,
  ⟨some [t, t, f, f, t], .idxArr 8 8 (.s [t, f, f]) (.s [t, f, f, f, t]), none⟩,
  ⟨some [f, f, t, f, t], .idxArr 8 1 (.s [t, t, f, f, t]) (.s [f, t, f, f, t]), none⟩,
  ⟨some [t, f, t, f, t], .load none (.s [f, f, t, f, t]), none⟩,
  ⟨some [f, t, t, f, t], .move (.s [t, f, t]), none⟩,
  ⟨some [t, t, t, f, t], .move (.s [f, t, t]), none⟩,
  ⟨some [f, f, f, t, t], .bin .mul (.s [f, t, t, f, t]) (.s [t, t, t, f, t]), none⟩,
  ⟨some [t, f, f, t, t], .bin .add (.s [t, f, t, f, t]) (.s [f, f, f, t, t]), none⟩,
  ⟨some [f, t, f, t, t], .idxArr 8 8 (.s [t, f, f]) (.s [t, f, f, f, t]), none⟩,
  ⟨some [t, t, f, t, t], .idxArr 8 1 (.s [f, t, f, t, t]) (.s [f, t, f, f, t]), none⟩,
  ⟨none, .store 1 (.s [t, t, f, t, t]) (.s [t, f, f, t, t]), none⟩]
  [] [[], [], [0], [0, 1, 2], [0, 1, 2, 3], [], [], [5, 6], (r 8), [0], (r 10), (r 11)]) : CCode)) false true
def c73_o15 : CCode := (fun (f t : Bool) => (.trim [[f, f], [t, f], [f, t], [t, t], [t, f, f], [f, t, f], [t, t, f], [f, f, f, f], [t, f, f, f], [t, f, t, f], [f, t, t, f], [f, t, f, t], [t, t, f, t]] (.ops [
  ⟨some [f, f, t, t, t], .move (.s [f, t, f]), none⟩,
  ⟨some [t, f, t, t, t], .move (.s [t, t, f]), none⟩,
  ⟨some [f, t, t, t, t], .idxArr 8 8 (.s [t, f, f]) (.s [f, f, t, t, t]), none⟩,
  ⟨some [t, t, t, t, t], .idxArr 8 1 (.s [f, t, t, t, t]) (.s [t, f, t, t, t]), none⟩,
  ⟨some [f, f, f, f, f, f], .load none (.s [t, t, t, t, t]), none⟩,
  ⟨some [t, f, f, f, f, f], .bin .gtr (.s [f, f, f, f, f, f]) (.c (.int .i64 1152921504606846976)), none⟩]) : CCode)) false true
def c73_o16 : CCode := (fun (f t : Bool) => (.trim [[t, t]] (.ops [
  ⟨some [f, t, f, f, f, f], .build (List.replicate 64 (.int .i64 0)) [], none⟩,
  ⟨none, .store 64 (.s [t, t]) (.s [f, t, f, f, f, f]), none⟩,
  ⟨some [f, f, f], .move (.c (.bool f)), none⟩]) : CCode)) false true
def c73_o17 : CCode := (fun (f t : Bool) => (.trim [[f, f], [t, f], [f, t], [t, t], [t, f, f], [f, t, f], [t, t, f], [f, f, f, f], [t, f, f, f], [t, f, t, f], [f, t, t, f], [f, t, f, t], [t, t, f, t]] (.ops [
  ⟨some [t, t, f, f, f, f], .bin .add (.s [t, t, f, t]) (.c (.int .i64 1)), none⟩,
  ⟨some [t, t, f, t], .move (.s [t, t, f, f, f, f]), none⟩]) : CCode)) false true
def c73_b0 : CCode := (fun (f t : Bool) => ((.seq c73_o9
 (.seq (.cond (.s [f, f, t, t]) .skip (.exit 4))
 (.seq (.block 5 (.seq c73_o10
 (.seq c73_o11
 (.seq (.seq c73_o12
 (.cond (.s [t, t, t, t, f]) (.seq c73_o13
 .ret) .skip))
 (.seq c73_o14
 (.seq c73_o15
 (.cond (.s [t, f, f, f, f, f]) (.seq c73_o16
 .ret) .skip)))))))
 c73_o17))) : CCode)) false true
def c73_l0 : CCode := (fun (f t : Bool) => (.loop [[f, f], [t, f], [f, t], [t, t], [t, f, f], [f, t, f], [t, t, f], [f, f, f, f], [t, f, f, f], [t, f, t, f], [f, t, t, f], [f, t, f, t], [t, t, f, t]] c73_b0 : CCode)) false true
def c73_o18 : CCode := (fun (f t : Bool) => (.trim [[f, f], [t, f], [f, t], [t, t], [t, f, f], [f, t, f], [f, f, f, f], [t, f, f, f], [t, f, t, f], [f, t, t, f]] (.ops [
  ⟨some [f, f, t, f, f, f], .bin .add (.s [f, t, t, f]) (.c (.int .i64 1)), none⟩,
  ⟨some [f, t, t, f], .move (.s [f, f, t, f, f, f]), none⟩]) : CCode)) false true
def c73_b1 : CCode := (fun (f t : Bool) => ((.seq c73_o6
 (.seq (.cond (.s [t, t, t, f]) .skip (.exit 2))
 (.seq (.block 3 (.seq c73_o7
 (.seq c73_o8
 (.block 4 c73_l0))))
 c73_o18))) : CCode)) false true
def c73_l1 : CCode := (fun (f t : Bool) => (.loop [[f, f], [t, f], [f, t], [t, t], [t, f, f], [f, t, f], [f, f, f, f], [t, f, f, f], [t, f, t, f], [f, t, t, f]] c73_b1 : CCode)) false true
def c73_o19 : CCode := (fun (f t : Bool) => (.trim [[f, f], [t, f], [f, t], [t, t], [t, f, f], [f, f, f, f], [t, f, f, f]] (.ops [
  ⟨some [t, f, t, f, f, f], .bin .add (.s [t, f, f, f]) (.c (.int .i64 1)), none⟩,
  ⟨some [t, f, f, f], .move (.s [t, f, t, f, f, f]), none⟩]) : CCode)) false true
def c73_b2 : CCode := (fun (f t : Bool) => ((.seq c73_o3
 (.seq (.cond (.s [f, t, f, f]) .skip (.exit 0))
 (.seq (.block 1 (.seq c73_o4
 (.seq c73_o5
 (.block 2 c73_l1))))
 c73_o19))) : CCode)) false true
def c73_l2 : CCode := (fun (f t : Bool) => (.loop [[f, f], [t, f], [f, t], [t, t], [t, f, f], [f, f, f, f], [t, f, f, f]] c73_b2 : CCode)) false true
def c73_o20 : CCode := (fun (f t : Bool) => (.trim [[t, t], [t, f, f]] (.ops [
  ⟨some [f, t, t, f, f, f], .load (some 64) (.s [t, f, f]), none⟩,
  ⟨none, .store 64 (.s [t, t]) (.s [f, t, t, f, f, f]), none⟩,
  ⟨some [f, f, f], .move (.c (.bool t)), none⟩]) : CCode)) false true
def c73 : CFunc := (fun (f t : Bool) => ({ params := [[], [f], [t]], results := [.cell [t, t] (some 64), .slot [f, f, f]], shared := f, body := (.seq c73_o0
 (.seq c73_o1
 (.seq (.seq c73_o2
 (.block 0 c73_l2))
 (.seq c73_o20
 .ret)))) } : CFunc)) false true
def c74_o0 : CCode := (fun (f t : Bool) => (.trim [[], [f]] (.ops [
  ⟨some [t], .box none (.s []), none⟩,
  ⟨some [f, f], .box none (.s [f]), none⟩,
  ⟨some [t, f], .move (.c (.nils)), none⟩]) : CCode)) false true
def c74_o1 : CCode := (fun (f t : Bool) => (.trim [[t], [f, f]] (.ops [
  ⟨some [f, t], .move (.c (.nils)), none⟩]) : CCode)) false true
def c74_o2 : CCode := (fun (f t : Bool) => (.trim [[t], [f, f], [f, t]] (.ops [
  ⟨some [f, f, f], .fieldAddr 0 (.s [t]), none⟩,
  ⟨some [t, f, f], .load none (.s [f, f, f]), none⟩,
  ⟨some [f, t, f], .move (.c (.int .i64 0)), none⟩]) : CCode)) false true
def c74_o3 : CCode := (fun (f t : Bool) => (.trim [[t], [f, f], [f, t], [t, f, f], [f, t, f]] (.ops [
  ⟨some [t, t, f], .bin .lss (.s [f, t, f]) (.s [t, f, f]), none⟩]) : CCode)) false true
def c74_o4 : CCode := (fun (f t : Bool) => (.trim [[t], [f, f], [f, t], [t, f, f], [f, t, f]] (.ops [
  ⟨some [f, f, t], .move (.s [f, t, f]), none⟩,
  ⟨some [t, t], .move (.s [f, f, t]), none⟩]) : CCode)) false true
def c74_o5 : CCode := (fun (f t : Bool) => (.trim [[t], [f, f], [f, t], [t, t], [t, f, f], [f, t, f]] (.draw 2 [
  ⟨some [t, f, t], .move (.s [f, t]), none⟩,
  ⟨some [f, t, t], .move (.s [t, t]), none⟩,
  ⟨some [t, t, t], .idxArr 8 8 (.s [f, f]) (.s [f, t, t]), none⟩,
  ⟨some [f, f, f, f], .fieldAddr 0 (.s [t]), none⟩,
  ⟨some [t, f, f, f], .load none (.s [f, f, f, f]), none⟩,
  ⟨some [f, t, f, f], .slArr 8 1 (.s [t, t, t]) none (some (.s [t, f, f, f])), none⟩,
  ⟨some [t, t, f, f], .call f (.c (.func 79 [])) [(.s [f, t, f, f])], none⟩,
  ⟨some [f, f, t, f], .buildSlice (some 0) 1 1 [.nils] [(0, 1, (.s [t, t, f, f]))], none⟩,
  ⟨some [t, f, t, f], .append (some 1) 1 24 (.s [t, f, t]) (.s [f, f, t, f]), none⟩,
  ⟨some [f, t], .move (.s [t, f, t, f]), none⟩]
  [] [[], [], [1], [], [3], [1, 2, 3, 4], [1, 2, 3, 4, 5], [1, 2, 3, 4, 5, 6], (r 8), (r 9)]) : CCode)) false true
def c74_o6 : CCode := (fun (f t : Bool) => (.trim [[t], [f, f], [f, t], [t, f, f], [f, t, f]] (.ops [
  ⟨some [f, t, t, f], .bin .add (.s [f, t, f]) (.c (.int .i64 1)), none⟩,
  ⟨some [f, t, f], .move (.s [f, t, t, f]), none⟩]) : CCode)) false true
def c74_b0 : CCode := (fun (f t : Bool) => ((.seq c74_o3
 (.seq (.cond (.s [t, t, f]) .skip (.exit 0))
 (.seq (.block 1 (.seq c74_o4
 c74_o5))
 c74_o6))) : CCode)) false true
def c74_l0 : CCode := (fun (f t : Bool) => (.loop [[t], [f, f], [f, t], [t, f, f], [f, t, f]] c74_b0 : CCode)) false true
def c74_o7 : CCode := (fun (f t : Bool) => (.trim [[f, t]] (.ops [
  ⟨some [t, t, t, f], .move (.s [f, t]), none⟩,
  ⟨some [t, f], .move (.s [t, t, t, f]), none⟩]) : CCode)) false true
def c74 : CFunc := (fun (f t : Bool) => ({ params := [[], [f]], results := [.slot [t, f]], shared := f, body := (.seq c74_o0
 (.seq c74_o1
 (.seq (.seq c74_o2
 (.block 0 c74_l0))
 (.seq c74_o7
 .ret)))) } : CFunc)) false true
def c76_o0 : CCode := (fun (f t : Bool) => (.trim [[], [f]] (.ops [
  ⟨some [t, f], .move (.c (.int .i64 0)), none⟩]) : CCode)) false true
def c76_o1 : CCode := (fun (f t : Bool) => (.trim [[], [f]] (.ops [
  ⟨some [t, t], .move (.s [f]), none⟩,
  ⟨some [f, f, f], .bin .gtr (.s [t, t]) (.c (.int .i64 0)), none⟩]) : CCode)) false true
def c76_o2 : CCode := (fun (f t : Bool) => (.trim [[], [f]] (.ops [
  ⟨some [t, f, f], .move (.s []), none⟩,
  ⟨some [f, t, f], .move (.s [f]), none⟩,
  ⟨some [t, t, f], .bin .rem (.s [t, f, f]) (.s [f, t, f]), none⟩,
  ⟨some [f, t], .move (.s [t, t, f]), none⟩]) : CCode)) false true
def c76_o3 : CCode := (fun (f t : Bool) => (.trim [[f], [f, t]] (.ops [
  ⟨some [f, f, t], .move (.s [f]), none⟩,
  ⟨some [], .move (.s [f, f, t]), none⟩]) : CCode)) false true
def c76_o4 : CCode := (fun (f t : Bool) => (.trim [[], [f, t]] (.ops [
  ⟨some [t, f, t], .move (.s [f, t]), none⟩,
  ⟨some [f], .move (.s [t, f, t]), none⟩]) : CCode)) false true
def c76_b0 : CCode := (fun (f t : Bool) => ((.seq (.seq c76_o1
 (.cond (.s [f, f, f]) .skip (.exit 0)))
 (.block 1 (.seq c76_o2
 (.seq c76_o3
 c76_o4)))) : CCode)) false true
def c76_l0 : CCode := (fun (f t : Bool) => (.loop [[], [f]] c76_b0 : CCode)) false true
def c76_o5 : CCode := (fun (f t : Bool) => (.trim [[]] (.ops [
  ⟨some [f, t, t], .move (.s []), none⟩,
  ⟨some [t, f], .move (.s [f, t, t]), none⟩]) : CCode)) false true
def c76 : CFunc := (fun (f t : Bool) => ({ params := [[], [f]], results := [.slot [t, f]], shared := f, body := (.seq c76_o0
 (.seq (.block 0 c76_l0)
 (.seq c76_o5
 .ret))) } : CFunc)) false true
def c77_o0 : CCode := (fun (f t : Bool) => (.trim [[]] (.ops [
  ⟨some [t], .move (.c (.bool f)), none⟩]) : CCode)) false true
def c77_o1 : CCode := (fun (f t : Bool) => (.trim [[]] (.ops [
  ⟨some [f, f], .move (.s []), none⟩,
  ⟨some [t, f], .call f (.c (.func 57 [])) [(.s [f, f]), (.c (.int .i64 0)), (.c (.int .i64 9))], none⟩,
  ⟨some [f, t], .un .not (.s [t, f]), none⟩,
  ⟨some [t], .move (.s [f, t]), none⟩]) : CCode)) false true
def c77 : CFunc := (fun (f t : Bool) => ({ params := [[]], results := [.slot [t]], shared := t, body := (.seq c77_o0
 (.seq c77_o1
 .ret)) } : CFunc)) false true
def c78_o0 : CCode := (fun (f t : Bool) => (.trim [[], [f]] (.ops [
  ⟨some [t, f], .move (.c (.int .i64 0)), none⟩]) : CCode)) false true
def c78_o1 : CCode := (fun (f t : Bool) => (.trim [[], [f]] (.ops [
  ⟨some [t, t], .move (.s []), none⟩,
  ⟨some [f, f, f], .len 1 (.s [t, t]), none⟩,
  ⟨some [t, f, f], .move (.c (.int .i64 0)), none⟩]) : CCode)) false true
def c78_o2 : CCode := (fun (f t : Bool) => (.trim [[], [f], [f, f, f], [t, f, f]] (.ops [
  ⟨some [f, t, f], .bin .lss (.s [t, f, f]) (.s [f, f, f]), none⟩]) : CCode)) false true
def c78_o3 : CCode := (fun (f t : Bool) => (.trim [[], [f], [f, f, f], [t, f, f]] (.ops [
  ⟨some [t, t, f], .move (.s [t, f, f]), none⟩,
  ⟨some [f, t], .move (.s [t, t, f]), none⟩]) : CCode)) false true
def c78_o4 : CCode := (fun (f t : Bool) => (.trim [[], [f], [f, t], [f, f, f], [t, f, f]] (.ops [
  ⟨some [f, f, t], .move (.s [f]), none⟩,
  ⟨some [t, f, t], .move (.s []), none⟩,
  ⟨some [f, t, t], .move (.s [f, t]), none⟩,
  ⟨some [t, t, t], .idxSl 1 (.s [t, f, t]) (.s [f, t, t]), none⟩,
  ⟨some [f, f, f, f], .load none (.s [t, t, t]), none⟩,
  ⟨some [t, f, f, f], .call f (.s [f, f, t]) [(.s [f, f, f, f])], none⟩]) : CCode)) false true
def c78_o5 : CCode := (fun (f t : Bool) => (.trim [[f, t]] (.ops [
  ⟨some [f, t, f, f], .move (.s [f, t]), none⟩,
  ⟨some [t, f], .move (.s [f, t, f, f]), none⟩]) : CCode)) false true
def c78_o6 : CCode := (fun (f t : Bool) => (.trim [[], [f], [f, f, f], [t, f, f]] (.ops [
  ⟨some [t, t, f, f], .bin .add (.s [t, f, f]) (.c (.int .i64 1)), none⟩,
  ⟨some [t, f, f], .move (.s [t, t, f, f]), none⟩]) : CCode)) false true
def c78_b0 : CCode := (fun (f t : Bool) => ((.seq c78_o2
 (.seq (.cond (.s [f, t, f]) .skip (.exit 0))
 (.seq (.block 1 (.seq c78_o3
 (.seq c78_o4
 (.cond (.s [t, f, f, f]) (.seq c78_o5
 .ret) .skip))))
 c78_o6))) : CCode)) false true
def c78_l0 : CCode := (fun (f t : Bool) => (.loop [[], [f], [f, f, f], [t, f, f]] c78_b0 : CCode)) false true
def c78_o7 : CCode := (fun (f t : Bool) => (.trim [] (.ops [
  ⟨some [t, f], .move (.c (.int .i64 (-1))), none⟩]) : CCode)) false true
def c78 : CFunc := (fun (f t : Bool) => ({ params := [[], [f]], results := [.slot [t, f]], shared := f, body := (.seq c78_o0
 (.seq (.seq c78_o1
 (.block 0 c78_l0))
 (.seq c78_o7
 .ret))) } : CFunc)) false true
def c79_o0 : CCode := (fun (f t : Bool) => (.trim [[]] (.ops [
  ⟨some [t], .move (.c (.nils)), none⟩]) : CCode)) false true
def c79_o1 : CCode := (fun (f t : Bool) => (.trim [[]] (.ops [
  ⟨some [f, f], .move (.s []), none⟩,
  ⟨some [t, f], .eqv 2 f (.s [f, f]) (.c (.nils)), none⟩]) : CCode)) false true
def c79_o2 : CCode := (fun (f t : Bool) => (.trim [] (.ops [
  ⟨some [t], .move (.c (.nils)), none⟩]) : CCode)) false true
def c79_o3 : CCode := (fun (f t : Bool) => (.trim [[]] (.ops [
  ⟨some [f, t], .buildSlice none 1 0 [] [], none⟩,
  ⟨some [t, t], .move (.s []), none⟩,
  ⟨some [f, f, f], .append none 1 8 (.s [f, t]) (.s [t, t]), none⟩,
  ⟨some [t], .move (.s [f, f, f]), none⟩]) : CCode)) false true
def c79 : CFunc := (fun (f t : Bool) => ({ params := [[]], results := [.slot [t]], shared := f, body := (.seq c79_o0
 (.seq (.seq c79_o1
 (.cond (.s [t, f]) (.seq c79_o2
 .ret) .skip))
 (.seq c79_o3
 .ret))) } : CFunc)) false true
end Go.Proofs.Ytjeemgaoonapgaa.Ev
