/-
  The code of the program's functions as the evaluator takes it, printed by wip/tool/emit.py. SCheck ties each to the translation. No condition.
-/
import Derived.Test.YtjeemgaoonapgaaEv
namespace Go.Proofs.Ytjeemgaoonapgaa.Ev
open Go Go.AEv
set_option linter.unusedVariables false
private abbrev r := List.range
def c68_o0 : CCode := (fun (f t : Bool) => (.trim [[], [f], [t], [f, f], [t, f], [f, t], [t, t]] (.ops [
  ⟨some [t, f, f], .move (.c (.int .i64 0)), none⟩]) : CCode)) false true
def c68_o1 : CCode := (fun (f t : Bool) => (.trim [[], [f], [t], [f, f], [t, f], [f, t], [t, t]] (.ops [
  ⟨some [t, t, t], .load none (.s [f]), none⟩,
  ⟨some [f, f, f, f], .move (.s []), none⟩,
  ⟨some [t, f, f, f], .lookup (.i .i64) (.int .i64 0) t (.s [t, t, t]) (.s [f, f, f, f]), none⟩,
  ⟨some [f, t, t], .move (.s [t, f, f, f]), none⟩,
  ⟨some [f, t, f, f], .extract 0 (.s [f, t, t]), none⟩,
  ⟨some [t, t, f, f], .extract 1 (.s [f, t, t]), none⟩,
  ⟨some [f, t, f], .move (.s [f, t, f, f]), none⟩,
  ⟨some [t, t, f], .move (.s [t, t, f, f]), none⟩]) : CCode)) false true
def c68_o2 : CCode := (fun (f t : Bool) => (.trim [[], [f], [t], [f, f], [t, f], [f, t], [t, t], [t, t, f]] (.ops [
  ⟨some [f, f, t, f], .move (.s [t, t, f]), none⟩,
  ⟨some [t, f, t, f], .un .not (.s [f, f, t, f]), none⟩]) : CCode)) false true
def c68_o3 : CCode := (fun (f t : Bool) => (.trim [[], [f], [t], [f, f], [t, f], [f, t], [t, t]] (.ops [
  ⟨some [f, f, t], .move (.c (.int .i64 0)), none⟩]) : CCode)) false true
def c68_o4 : CCode := (fun (f t : Bool) => (.trim [[], [f], [t], [f, f], [t, f], [f, t], [t, t], [f, f, t]] (.ops [
  ⟨some [f, t, t, f], .fieldAddr 0 (.s [t]), none⟩,
  ⟨some [t, t, t, f], .load none (.s [f, t, t, f]), none⟩,
  ⟨some [f, f, f, t], .move (.c (.int .i64 0)), none⟩]) : CCode)) false true
def c68_o5 : CCode := (fun (f t : Bool) => (.trim [[], [f], [f, f], [t, f], [f, t], [t, t], [f, f, t], [t, t, t, f], [f, f, f, t]] (.ops [
  ⟨some [t, f, f, t], .bin .lss (.s [f, f, f, t]) (.s [t, t, t, f]), none⟩]) : CCode)) false true
def c68_o6 : CCode := (fun (f t : Bool) => (.trim [[], [f], [f, f], [t, f], [f, t], [t, t], [f, f, t], [t, t, t, f], [f, f, f, t]] (.ops [
  ⟨some [f, t, f, t], .move (.s [f, f, f, t]), none⟩,
  ⟨some [t, f, t], .move (.s [f, t, f, t]), none⟩]) : CCode)) false true
def c68_o7 : CCode := (fun (f t : Bool) => (.trim [[], [f], [f, f], [t, f], [f, t], [t, t], [f, f, t], [t, f, t], [t, t, t, f], [f, f, f, t]] (.ops [
  ⟨some [t, t, f, t], .move (.s [t, f, t]), none⟩,
  ⟨some [f, f, t, t], .load none (.s [f, f]), none⟩,
  ⟨some [t, f, t, t], .move (.s [t, f, t]), none⟩,
  ⟨some [f, t, t, t], .idxSl 1 (.s [f, f, t, t]) (.s [t, f, t, t]), none⟩,
  ⟨some [t, t, t, t], .load none (.s [f, t, t, t]), none⟩,
  ⟨some [f, f, f, f, f], .bin .eql (.s [t, t, f, t]) (.s [t, t, t, t]), none⟩,
  ⟨some [t, f, f, f, f], .move (.s [f, f, f, f, f]), none⟩,
  ⟨some [f, t, f, f, f], .move (.s [t, f, t]), some ([t, f, f, f, f], t)⟩,
  ⟨some [t, t, f, f, f], .move (.s []), some ([t, f, f, f, f], t)⟩,
  ⟨some [f, f, t, f, f], .bin .neq (.s [f, t, f, f, f]) (.s [t, t, f, f, f]), some ([t, f, f, f, f], t)⟩,
  ⟨some [t, f, t, f, f], .pick (.s [t, f, f, f, f]) (.s [f, f, t, f, f]) (.c (.bool f)), none⟩,
  ⟨some [f, t, t, f, f], .move (.s [t, f, t, f, f]), none⟩,
  ⟨some [t, t, t, f, f], .move (.s []), some ([f, t, t, f, f], t)⟩,
  ⟨some [f, f, f, t, f], .move (.s [t, f, t]), some ([f, t, t, f, f], t)⟩,
  ⟨some [t, f, f, t, f], .idxArr 8 8 (.s [t, f]) (.s [t, t, t, f, f]), some ([f, t, t, f, f], t)⟩,
  ⟨some [f, t, f, t, f], .idxArr 8 1 (.s [t, f, f, t, f]) (.s [f, f, f, t, f]), some ([f, t, t, f, f], t)⟩,
  ⟨some [t, t, f, t, f], .load none (.s [f, t, f, t, f]), some ([f, t, t, f, f], t)⟩,
  ⟨some [f, f, t, t, f], .pick (.s [f, t, t, f, f]) (.s [t, t, f, t, f]) (.c (.bool f)), none⟩]) : CCode)) false true
def c68_o8 : CCode := (fun (f t : Bool) => (.trim [[], [f], [f, f], [t, f], [f, t], [t, t], [f, f, t], [t, f, t], [t, t, t, f], [f, f, f, t]] (.ops [
  ⟨some [t, f, t, t, f], .move (.s [f, f, t]), none⟩,
  ⟨some [f, t, t, t, f], .load none (.s [f, t]), none⟩,
  ⟨some [t, t, t, t, f], .move (.s [t, f, t]), none⟩,
  ⟨some [f, f, f, f, t], .call f (.s [f, t, t, t, f]) [(.s [t, t, t, t, f])], none⟩,
  ⟨some [t, f, f, f, t], .minmax t (.s [t, f, t, t, f]) (.s [f, f, f, f, t]), none⟩,
  ⟨some [f, f, t], .move (.s [t, f, f, f, t]), none⟩]) : CCode)) false true
def c68_o9 : CCode := (fun (f t : Bool) => (.trim [[], [f], [f, f], [t, f], [f, t], [t, t], [f, f, t], [t, t, t, f], [f, f, f, t]] (.ops [
  ⟨some [f, t, f, f, t], .bin .add (.s [f, f, f, t]) (.c (.int .i64 1)), none⟩,
  ⟨some [f, f, f, t], .move (.s [f, t, f, f, t]), none⟩]) : CCode)) false true
def c68_b0 : CCode := (fun (f t : Bool) => ((.seq c68_o5
 (.seq (.cond (.s [t, f, f, t]) .skip (.exit 0))
 (.seq (.block 1 (.seq c68_o6
 (.seq c68_o7
 (.cond (.s [f, f, t, t, f]) c68_o8 .skip))))
 c68_o9))) : CCode)) false true
def c68_l0 : CCode := (fun (f t : Bool) => (.loop [[], [f], [f, f], [t, f], [f, t], [t, t], [f, f, t], [t, t, t, f], [f, f, f, t]] c68_b0 : CCode)) false true
def c68_o10 : CCode := (fun (f t : Bool) => (.trim [[], [f], [t, t], [f, f, t]] (.ops [
  ⟨some [t, t, f, f, t], .load none (.s [t, t]), none⟩,
  ⟨some [f, f, t, f, t], .move (.s []), none⟩,
  ⟨some [t, f, t, f, t], .lookup (.i .i64) (.bool f) f (.s [t, t, f, f, t]) (.s [f, f, t, f, t]), none⟩]) : CCode)) false true
def c68_o11 : CCode := (fun (f t : Bool) => (.trim [[], [f], [f, f, t]] (.ops [
  ⟨some [f, t, t, f, t], .move (.s [f, f, t]), none⟩,
  ⟨some [t, t, t, f, t], .bin .add (.s [f, t, t, f, t]) (.c (.int .i64 1)), none⟩,
  ⟨some [f, f, t], .move (.s [t, t, t, f, t]), none⟩]) : CCode)) false true
def c68_o12 : CCode := (fun (f t : Bool) => (.trim [[], [f], [f, f, t]] (.ops [
  ⟨some [f, f, f, t, t], .load none (.s [f]), none⟩,
  ⟨some [t, f, f, t, t], .move (.s []), none⟩,
  ⟨some [f, t, f, t, t], .move (.s [f, f, t]), none⟩,
  ⟨none, .mapUpdate (.i .i64) (.s [f, f, f, t, t]) (.s [t, f, f, t, t]) (.s [f, t, f, t, t]), none⟩]) : CCode)) false true
def c68_o13 : CCode := (fun (f t : Bool) => (.trim [[], [f]] (.ops [
  ⟨some [t, t, f, t, t], .load none (.s [f]), none⟩,
  ⟨some [f, f, t, t, t], .move (.s []), none⟩,
  ⟨some [t, f, t, t, t], .lookup (.i .i64) (.int .i64 0) f (.s [t, t, f, t, t]) (.s [f, f, t, t, t]), none⟩,
  ⟨some [t, f, f], .move (.s [t, f, t, t, t]), none⟩]) : CCode)) false true
def c68 : CFunc := (fun (f t : Bool) => ({ params := [[], [f], [t], [f, f], [t, f], [f, t], [t, t]], results := [.slot [t, f, f]], shared := t, body := (.seq c68_o0
 (.seq (.seq c68_o1
 (.seq c68_o2
 (.cond (.s [t, f, t, f]) (.seq c68_o3
 (.seq (.seq c68_o4
 (.block 0 c68_l0))
 (.seq (.seq c68_o10
 (.cond (.s [t, f, t, f, t]) c68_o11 .skip))
 c68_o12))) .skip)))
 (.seq c68_o13
 .ret))) } : CFunc)) false true
def c76_o0 : CCode := (fun (f t : Bool) => (.trim [[], [f]] (.ops [
  ⟨some [t, f], .move (.c (.int .i64 0)), none⟩]) : CCode)) false true
def c76_o1 : CCode := (fun (f t : Bool) => (.trim [[], [f]] (.ops [
  ⟨some [t, t], .move (.s [f]), none⟩,
  ⟨some [f, f, f], .bin .gtr (.s [t, t]) (.c (.int .i64 0)), none⟩]) : CCode)) false true
def c76_o2 : CCode := (fun (f t : Bool) => (.trim [[], [f]] (.ops [
  ⟨some [t, f, f], .move (.s []), none⟩,
  ⟨some [f, t, f], .move (.s [f]), none⟩,
  ⟨some [t, t, f], .bin .rem (.s [t, f, f]) (.s [f, t, f]), none⟩,
  ⟨some [f, t], .move (.s [t, t, f]), none⟩]) : CCode)) false true
def c76_o3 : CCode := (fun (f t : Bool) => (.trim [[f], [f, t]] (.ops [
  ⟨some [f, f, t], .move (.s [f]), none⟩,
  ⟨some [], .move (.s [f, f, t]), none⟩]) : CCode)) false true
def c76_o4 : CCode := (fun (f t : Bool) => (.trim [[], [f, t]] (.ops [
  ⟨some [t, f, t], .move (.s [f, t]), none⟩,
  ⟨some [f], .move (.s [t, f, t]), none⟩]) : CCode)) false true
def c76_b0 : CCode := (fun (f t : Bool) => ((.seq (.seq c76_o1
 (.cond (.s [f, f, f]) .skip (.exit 0)))
 (.block 1 (.seq c76_o2
 (.seq c76_o3
 c76_o4)))) : CCode)) false true
def c76_l0 : CCode := (fun (f t : Bool) => (.loop [[], [f]] c76_b0 : CCode)) false true
def c76_o5 : CCode := (fun (f t : Bool) => (.trim [[]] (.ops [
  ⟨some [f, t, t], .move (.s []), none⟩,
  ⟨some [t, f], .move (.s [f, t, t]), none⟩]) : CCode)) false true
def c76 : CFunc := (fun (f t : Bool) => ({ params := [[], [f]], results := [.slot [t, f]], shared := f, body := (.seq c76_o0
 (.seq (.block 0 c76_l0)
 (.seq c76_o5
 .ret))) } : CFunc)) false true
def c77_o0 : CCode := (fun (f t : Bool) => (.trim [[]] (.ops [
  ⟨some [t], .move (.c (.bool f)), none⟩]) : CCode)) false true
def c77_o1 : CCode := (fun (f t : Bool) => (.trim [[]] (.ops [
  ⟨some [f, f], .move (.s []), none⟩,
  ⟨some [t, f], .call f (.c (.func 57 [])) [(.s [f, f]), (.c (.int .i64 0)), (.c (.int .i64 9))], none⟩,
  ⟨some [f, t], .un .not (.s [t, f]), none⟩,
  ⟨some [t], .move (.s [f, t]), none⟩]) : CCode)) false true
def c77 : CFunc := (fun (f t : Bool) => ({ params := [[]], results := [.slot [t]], shared := t, body := (.seq c77_o0
 (.seq c77_o1
 .ret)) } : CFunc)) false true
def c78_o0 : CCode := (fun (f t : Bool) => (.trim [[], [f]] (.ops [
  ⟨some [t, f], .move (.c (.int .i64 0)), none⟩]) : CCode)) false true
def c78_o1 : CCode := (fun (f t : Bool) => (.trim [[], [f]] (.ops [
  ⟨some [t, t], .move (.s []), none⟩,
  ⟨some [f, f, f], .len 1 (.s [t, t]), none⟩,
  ⟨some [t, f, f], .move (.c (.int .i64 0)), none⟩]) : CCode)) false true
def c78_o2 : CCode := (fun (f t : Bool) => (.trim [[], [f], [f, f, f], [t, f, f]] (.ops [
  ⟨some [f, t, f], .bin .lss (.s [t, f, f]) (.s [f, f, f]), none⟩]) : CCode)) false true
def c78_o3 : CCode := (fun (f t : Bool) => (.trim [[], [f], [f, f, f], [t, f, f]] (.ops [
  ⟨some [t, t, f], .move (.s [t, f, f]), none⟩,
  ⟨some [f, t], .move (.s [t, t, f]), none⟩]) : CCode)) false true
def c78_o4 : CCode := (fun (f t : Bool) => (.trim [[], [f], [f, t], [f, f, f], [t, f, f]] (.ops [
  ⟨some [f, f, t], .move (.s [f]), none⟩,
  ⟨some [t, f, t], .move (.s []), none⟩,
  ⟨some [f, t, t], .move (.s [f, t]), none⟩,
  ⟨some [t, t, t], .idxSl 1 (.s [t, f, t]) (.s [f, t, t]), none⟩,
  ⟨some [f, f, f, f], .load none (.s [t, t, t]), none⟩,
  ⟨some [t, f, f, f], .call f (.s [f, f, t]) [(.s [f, f, f, f])], none⟩]) : CCode)) false true
def c78_o5 : CCode := (fun (f t : Bool) => (.trim [[f, t]] (.ops [
  ⟨some [f, t, f, f], .move (.s [f, t]), none⟩,
  ⟨some [t, f], .move (.s [f, t, f, f]), none⟩]) : CCode)) false true
def c78_o6 : CCode := (fun (f t : Bool) => (.trim [[], [f], [f, f, f], [t, f, f]] (.ops [
  ⟨some [t, t, f, f], .bin .add (.s [t, f, f]) (.c (.int .i64 1)), none⟩,
  ⟨some [t, f, f], .move (.s [t, t, f, f]), none⟩]) : CCode)) false true
def c78_b0 : CCode := (fun (f t : Bool) => ((.seq c78_o2
 (.seq (.cond (.s [f, t, f]) .skip (.exit 0))
 (.seq (.block 1 (.seq c78_o3
 (.seq c78_o4
 (.cond (.s [t, f, f, f]) (.seq c78_o5
 .ret) .skip))))
 c78_o6))) : CCode)) false true
def c78_l0 : CCode := (fun (f t : Bool) => (.loop [[], [f], [f, f, f], [t, f, f]] c78_b0 : CCode)) false true
def c78_o7 : CCode := (fun (f t : Bool) => (.trim [] (.ops [
  ⟨some [t, f], .move (.c (.int .i64 (-1))), none⟩]) : CCode)) false true
def c78 : CFunc := (fun (f t : Bool) => ({ params := [[], [f]], results := [.slot [t, f]], shared := f, body := (.seq c78_o0
 (.seq (.seq c78_o1
 (.block 0 c78_l0))
 (.seq c78_o7
 .ret))) } : CFunc)) false true
end Go.Proofs.Ytjeemgaoonapgaa.Ev
