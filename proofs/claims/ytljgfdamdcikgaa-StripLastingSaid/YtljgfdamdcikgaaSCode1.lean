/-
  The code of the program's functions as the evaluator takes it, printed by wip/tool/emit.py. SCheck ties each to the translation. No condition.
-/
import Derived.Test.YtljgfdamdcikgaaEv
namespace Go.Proofs.Ytljgfdamdcikgaa.Ev
open Go Go.AEv
set_option linter.unusedVariables false
private abbrev r := List.range
def c111_o0 : CCode := (fun (f t : Bool) => (.trim [[], [f]] (.ops [
  ⟨some [t, f], .move (.c (.int .i64 0)), none⟩]) : CCode)) false true
def c111_o1 : CCode := (fun (f t : Bool) => (.trim [[], [f]] (.ops [
  ⟨some [t, t], .move (.s []), none⟩,
  ⟨some [f, f, f], .len 1 (.s [t, t]), none⟩,
  ⟨some [t, f, f], .move (.c (.int .i64 0)), none⟩]) : CCode)) false true
def c111_o2 : CCode := (fun (f t : Bool) => (.trim [[], [f], [f, f, f], [t, f, f]] (.ops [
  ⟨some [f, t, f], .bin .lss (.s [t, f, f]) (.s [f, f, f]), none⟩]) : CCode)) false true
def c111_o3 : CCode := (fun (f t : Bool) => (.trim [[], [f], [f, f, f], [t, f, f]] (.ops [
  ⟨some [t, t, f], .move (.s [t, f, f]), none⟩,
  ⟨some [f, t], .move (.s [t, t, f]), none⟩]) : CCode)) false true
def c111_o4 : CCode := (fun (f t : Bool) => (.trim [[], [f], [f, t], [f, f, f], [t, f, f]] (.ops [
  ⟨some [f, f, t], .move (.s [f]), none⟩,
  ⟨some [t, f, t], .move (.s []), none⟩,
  ⟨some [f, t, t], .move (.s [f, t]), none⟩,
  ⟨some [t, t, t], .idxSl 1 (.s [t, f, t]) (.s [f, t, t]), none⟩,
  ⟨some [f, f, f, f], .load none (.s [t, t, t]), none⟩,
  ⟨some [t, f, f, f], .call f (.s [f, f, t]) [(.s [f, f, f, f])], none⟩]) : CCode)) false true
def c111_o5 : CCode := (fun (f t : Bool) => (.trim [[f, t]] (.ops [
  ⟨some [f, t, f, f], .move (.s [f, t]), none⟩,
  ⟨some [t, f], .move (.s [f, t, f, f]), none⟩]) : CCode)) false true
def c111_o6 : CCode := (fun (f t : Bool) => (.trim [[], [f], [f, f, f], [t, f, f]] (.ops [
  ⟨some [t, t, f, f], .bin .add (.s [t, f, f]) (.c (.int .i64 1)), none⟩,
  ⟨some [t, f, f], .move (.s [t, t, f, f]), none⟩]) : CCode)) false true
def c111_b0 : CCode := (fun (f t : Bool) => ((.seq c111_o2
 (.seq (.cond (.s [f, t, f]) .skip (.exit 0))
 (.seq (.block 1 (.seq c111_o3
 (.seq c111_o4
 (.cond (.s [t, f, f, f]) (.seq c111_o5
 .ret) .skip))))
 c111_o6))) : CCode)) false true
def c111_l0 : CCode := (fun (f t : Bool) => (.loop [[], [f], [f, f, f], [t, f, f]] c111_b0 : CCode)) false true
def c111_o7 : CCode := (fun (f t : Bool) => (.trim [] (.ops [
  ⟨some [t, f], .move (.c (.int .i64 (-1))), none⟩]) : CCode)) false true
def c111 : CFunc := (fun (f t : Bool) => ({ params := [[], [f]], results := [.slot [t, f]], shared := f, body := (.seq c111_o0
 (.seq (.seq c111_o1
 (.block 0 c111_l0))
 (.seq c111_o7
 .ret))) } : CFunc)) false true
end Go.Proofs.Ytljgfdamdcikgaa.Ev
