/-
  The code of the program's functions as the evaluator takes it, printed by wip/tool/emit.py. SCheck ties each to the translation. No condition.
-/
import Derived.Test.YtlkgpcfhpeilhaaEv
namespace Go.Proofs.Ytlkgpcfhpeilhaa.Ev
open Go Go.AEv

-- numnah/numnahlaw05.SamplePlans
-- c3_o0: 0=[] 1=[f] 2=[t]
-- c3_o1: 3=[f, f] 4=[t, f] 5=[f, t]
-- c3_o2: 4=[t, f] 5=[f, t] 7=[f, f, f] 8=[t, f, f] 9=[f, t, f]
-- c3_o3: 4=[t, f] 5=[f, t] 7=[f, f, f] 8=[t, f, f] 9=[f, t, f] 10=[t, t, f] 11=[f, f, t] 12=[t, f, t]
-- c3_o4: 10=[t, t, f] 11=[f, f, t] 12=[t, f, t]
-- c3_o5: 4=[t, f] 5=[f, t] 7=[f, f, f] 8=[t, f, f] 9=[f, t, f] 10=[t, t, f] 11=[f, f, t] 12=[t, f, t]
-- c3_o6: 4=[t, f] 5=[f, t] 7=[f, f, f] 8=[t, f, f] 9=[f, t, f] 10=[t, t, f] 11=[f, f, t] 12=[t, f, t] 13=[f, t, t]
-- c3_o7: 4=[t, f] 5=[f, t] 7=[f, f, f] 8=[t, f, f] 9=[f, t, f] 10=[t, t, f] 11=[f, f, t] 12=[t, f, t] 13=[f, t, t]
-- c3_o8: 4=[t, f] 5=[f, t] 7=[f, f, f] 8=[t, f, f] 9=[f, t, f] 10=[t, t, f] 11=[f, f, t] 12=[t, f, t] 13=[f, t, t] 14=[t, t, t]
-- c3_o9: 4=[t, f] 5=[f, t] 7=[f, f, f] 8=[t, f, f] 9=[f, t, f] 10=[t, t, f] 11=[f, f, t] 12=[t, f, t] 13=[f, t, t] 14=[t, t, t]
-- c3_o10: 10=[t, t, f] 11=[f, f, t] 12=[t, f, t] 13=[f, t, t] 14=[t, t, t]
-- c3_o11: 4=[t, f] 5=[f, t] 7=[f, f, f] 8=[t, f, f] 9=[f, t, f] 10=[t, t, f] 11=[f, f, t] 12=[t, f, t] 13=[f, t, t] 14=[t, t, t]
-- c3_l0: live slots [4, 5, 7, 8, 9, 10, 11, 12, 13, 14]
-- c3_o12: 4=[t, f] 5=[f, t] 7=[f, f, f] 8=[t, f, f] 9=[f, t, f] 10=[t, t, f] 11=[f, f, t] 12=[t, f, t] 13=[f, t, t]
-- c3_l1: live slots [4, 5, 7, 8, 9, 10, 11, 12, 13]
-- c3_o13: 10=[t, t, f] 11=[f, f, t] 12=[t, f, t]
def c3_o0 : CCode := .trim [[], [false], [true]] (.ops [
  ⟨some [false, false], .box none (.s []), none⟩,
  ⟨some [true, false], .box none (.s [false]), none⟩,
  ⟨some [false, true], .box none (.s [true]), none⟩,
  ⟨some [true, true], .move (.c (.bool false)), none⟩])
def c3_o1 : CCode := .trim [[false, false], [true, false], [false, true]] (.draw 0 [
  ⟨some [false, false, false, false], .idxArr 3 1 (.s [false, false]) (.c (.int .i64 0)), none⟩,
  ⟨some [true, false, false, false], .load none (.s [false, false, false, false]), none⟩,
  ⟨some [false, true, false, false], .idxArr 3 1 (.s [false, false]) (.c (.int .i64 1)), none⟩,
  ⟨some [true, true, false, false], .load none (.s [false, true, false, false]), none⟩,
  ⟨some [false, false, true, false], .idxArr 3 1 (.s [false, false]) (.c (.int .i64 2)), none⟩,
  ⟨some [true, false, true, false], .load none (.s [false, false, true, false]), none⟩,
  ⟨some [false, false, false], .move (.s [true, false, false, false]), none⟩,
  ⟨some [true, false, false], .move (.s [true, true, false, false]), none⟩,
  ⟨some [false, true, false], .move (.s [true, false, true, false]), none⟩]
  [(1, 3), (1, 5), (3, 5)] [[], [0], [], [2], [], [4], [0, 1], [0, 1, 2, 3, 6], [0, 1, 2, 3, 4, 5, 6, 7]])
def c3_o2 : CCode := .trim [[true, false], [false, true], [false, false, false], [true, false, false], [false, true, false]] (.ops [
  ⟨some [true, true, true, false], .move (.s [false, false, false]), none⟩,
  ⟨some [false, false, false, true], .move (.s [true, false, false]), none⟩,
  ⟨some [true, false, false, true], .move (.s [false, true, false]), none⟩,
  ⟨some [false, true, false, true], .load (some 2) (.s [true, false]), none⟩,
  ⟨some [true, true, false, true], .load (some 2) (.s [false, true]), none⟩,
  ⟨some [false, false, true, true], .call false (.c (.func 17 [])) [(.s [true, true, true, false]), (.s [false, false, false, true]), (.s [true, false, false, true]), (.s [false, true, false, true]), (.s [true, true, false, true])], none⟩,
  ⟨some [false, true, true, false], .move (.s [false, false, true, true]), none⟩,
  ⟨some [true, false, true, true], .extract 0 (.s [false, true, true, false]), none⟩,
  ⟨some [false, true, true, true], .extract 1 (.s [false, true, true, false]), none⟩,
  ⟨some [true, true, true, true], .extract 2 (.s [false, true, true, false]), none⟩,
  ⟨some [true, true, false], .move (.s [true, false, true, true]), none⟩,
  ⟨some [false, false, true], .move (.s [false, true, true, true]), none⟩,
  ⟨some [true, false, true], .move (.s [true, true, true, true]), none⟩])
def c3_o3 : CCode := .trim [[true, false], [false, true], [false, false, false], [true, false, false], [false, true, false], [true, true, false], [false, false, true], [true, false, true]] (.ops [
  ⟨some [false, false, false, false, false], .move (.s [false, false, false]), none⟩,
  ⟨some [true, false, false, false, false], .move (.s [true, false, false]), none⟩,
  ⟨some [false, true, false, false, false], .call false (.c (.func 18 [])) [(.s [false, false, false, false, false]), (.s [true, false, false, false, false])], none⟩,
  ⟨some [true, true, false, false, false], .un .not (.s [false, true, false, false, false]), none⟩,
  ⟨some [false, false, true, false, false], .move (.s [true, true, false, false, false]), none⟩,
  ⟨some [true, false, true, false, false], .move (.s [false, false, false]), some ([false, false, true, false, false], false)⟩,
  ⟨some [false, true, true, false, false], .move (.s [false, true, false]), some ([false, false, true, false, false], false)⟩,
  ⟨some [true, true, true, false, false], .call false (.c (.func 18 [])) [(.s [true, false, true, false, false]), (.s [false, true, true, false, false])], some ([false, false, true, false, false], false)⟩,
  ⟨some [false, false, false, true, false], .un .not (.s [true, true, true, false, false]), some ([false, false, true, false, false], false)⟩,
  ⟨some [true, false, false, true, false], .pick (.s [false, false, true, false, false]) (.c (.bool true)) (.s [false, false, false, true, false]), none⟩,
  ⟨some [false, true, false, true, false], .move (.s [true, false, false, true, false]), none⟩,
  ⟨some [true, true, false, true, false], .load (some 2) (.s [true, false]), some ([false, true, false, true, false], false)⟩,
  ⟨some [false, false, true, true, false], .call false (.c (.func 19 [])) [(.s [true, true, false, true, false])], some ([false, true, false, true, false], false)⟩,
  ⟨some [true, false, true, true, false], .un .not (.s [false, false, true, true, false]), some ([false, true, false, true, false], false)⟩,
  ⟨some [false, true, true, true, false], .pick (.s [false, true, false, true, false]) (.c (.bool true)) (.s [true, false, true, true, false]), none⟩,
  ⟨some [true, true, true, true, false], .move (.s [false, true, true, true, false]), none⟩,
  ⟨some [false, false, false, false, true], .load (some 2) (.s [false, true]), some ([true, true, true, true, false], false)⟩,
  ⟨some [true, false, false, false, true], .call false (.c (.func 19 [])) [(.s [false, false, false, false, true])], some ([true, true, true, true, false], false)⟩,
  ⟨some [false, true, false, false, true], .un .not (.s [true, false, false, false, true]), some ([true, true, true, true, false], false)⟩,
  ⟨some [true, true, false, false, true], .pick (.s [true, true, true, true, false]) (.c (.bool true)) (.s [false, true, false, false, true]), none⟩])
def c3_o4 : CCode := .trim [[true, true, false], [false, false, true], [true, false, true]] (.ops [
  ⟨some [false, false, true, false, true], .move (.s [true, true, false]), none⟩,
  ⟨some [true, false, true, false, true], .bin .eql (.s [false, false, true, false, true]) (.c (.int .i64 0)), none⟩,
  ⟨some [false, true, true, false, true], .move (.s [true, false, true, false, true]), none⟩,
  ⟨some [true, true, true, false, true], .move (.s [false, false, true]), some ([false, true, true, false, true], true)⟩,
  ⟨some [false, false, false, true, true], .bin .eql (.s [true, true, true, false, true]) (.c (.int .i64 0)), some ([false, true, true, false, true], true)⟩,
  ⟨some [true, false, false, true, true], .pick (.s [false, true, true, false, true]) (.s [false, false, false, true, true]) (.c (.bool false)), none⟩,
  ⟨some [false, true, false, true, true], .move (.s [true, false, false, true, true]), none⟩,
  ⟨some [true, true, false, true, true], .move (.s [true, false, true]), some ([false, true, false, true, true], true)⟩,
  ⟨some [false, false, true, true, true], .bin .eql (.s [true, true, false, true, true]) (.c (.int .i64 2)), some ([false, true, false, true, true], true)⟩,
  ⟨some [true, false, true, true, true], .pick (.s [false, true, false, true, true]) (.s [false, false, true, true, true]) (.c (.bool false)), none⟩,
  ⟨some [false, true, true, true, true], .move (.s [true, false, true, true, true]), none⟩,
  ⟨some [true, true, true, true, true], .call false (.c (.func 20 [])) [], some ([false, true, true, true, true], true)⟩,
  ⟨some [false, false, false, false, false, false], .pick (.s [false, true, true, true, true]) (.s [true, true, true, true, true]) (.c (.bool false)), none⟩,
  ⟨some [true, true], .move (.s [false, false, false, false, false, false]), none⟩])
def c3_o5 : CCode := .trim [[true, false], [false, true], [false, false, false], [true, false, false], [false, true, false], [true, true, false], [false, false, true], [true, false, true]] (.ops [
  ⟨some [false, true, true], .move (.c (.int .i64 1)), none⟩])
def c3_o6 : CCode := .trim [[true, false], [false, true], [false, false, false], [true, false, false], [false, true, false], [true, true, false], [false, false, true], [true, false, true], [false, true, true]] (.ops [
  ⟨some [true, false, false, false, false, false], .move (.s [false, true, true]), none⟩,
  ⟨some [false, true, false, false, false, false], .move (.s [false, false, false]), none⟩,
  ⟨some [true, true, false, false, false, false], .bin .leq (.s [true, false, false, false, false, false]) (.s [false, true, false, false, false, false]), none⟩])
def c3_o7 : CCode := .trim [[true, false], [false, true], [false, false, false], [true, false, false], [false, true, false], [true, true, false], [false, false, true], [true, false, true], [false, true, true]] (.ops [
  ⟨some [true, true, true], .move (.c (.int .i64 0)), none⟩])
def c3_o8 : CCode := .trim [[true, false], [false, true], [false, false, false], [true, false, false], [false, true, false], [true, true, false], [false, false, true], [true, false, true], [false, true, true], [true, true, true]] (.ops [
  ⟨some [false, true, true, false, false, false], .move (.s [true, true, true]), none⟩,
  ⟨some [true, true, true, false, false, false], .move (.s [false, true, true]), none⟩,
  ⟨some [false, false, false, true, false, false], .bin .lss (.s [false, true, true, false, false, false]) (.s [true, true, true, false, false, false]), none⟩])
def c3_o9 : CCode := .trim [[true, false], [false, true], [false, false, false], [true, false, false], [false, true, false], [true, true, false], [false, false, true], [true, false, true], [false, true, true], [true, true, true]] (.ops [
  ⟨some [true, true, false, true, false, false], .move (.s [false, false, false]), none⟩,
  ⟨some [false, false, true, true, false, false], .move (.s [true, false, false]), none⟩,
  ⟨some [true, false, true, true, false, false], .move (.s [false, true, false]), none⟩,
  ⟨some [false, true, true, true, false, false], .load (some 2) (.s [true, false]), none⟩,
  ⟨some [true, true, true, true, false, false], .load (some 2) (.s [false, true]), none⟩,
  ⟨some [false, false, false, false, true, false], .move (.s [false, true, true]), none⟩,
  ⟨some [true, false, false, false, true, false], .move (.s [true, true, true]), none⟩,
  ⟨some [false, true, false, false, true, false], .call false (.c (.func 21 [])) [(.s [true, true, false, true, false, false]), (.s [false, false, true, true, false, false]), (.s [true, false, true, true, false, false]), (.s [false, true, true, true, false, false]), (.s [true, true, true, true, false, false]), (.s [false, false, false, false, true, false]), (.s [true, false, false, false, true, false])], none⟩])
def c3_o10 : CCode := .trim [[true, true, false], [false, false, true], [true, false, true], [false, true, true], [true, true, true]] (.ops [
  ⟨some [true, true, false, false, true, false], .move (.s [true, true, false]), none⟩,
  ⟨some [false, false, true, false, true, false], .move (.s [false, true, true]), none⟩,
  ⟨some [true, false, true, false, true, false], .bin .eql (.s [true, true, false, false, true, false]) (.s [false, false, true, false, true, false]), none⟩,
  ⟨some [false, true, true, false, true, false], .move (.s [true, false, true, false, true, false]), none⟩,
  ⟨some [true, true, true, false, true, false], .move (.s [false, false, true]), some ([false, true, true, false, true, false], true)⟩,
  ⟨some [false, false, false, true, true, false], .move (.s [true, true, true]), some ([false, true, true, false, true, false], true)⟩,
  ⟨some [true, false, false, true, true, false], .bin .eql (.s [true, true, true, false, true, false]) (.s [false, false, false, true, true, false]), some ([false, true, true, false, true, false], true)⟩,
  ⟨some [false, true, false, true, true, false], .pick (.s [false, true, true, false, true, false]) (.s [true, false, false, true, true, false]) (.c (.bool false)), none⟩,
  ⟨some [true, true, false, true, true, false], .move (.s [false, true, false, true, true, false]), none⟩,
  ⟨some [false, false, true, true, true, false], .move (.s [true, false, true]), some ([true, true, false, true, true, false], true)⟩,
  ⟨some [true, false, true, true, true, false], .bin .eql (.s [false, false, true, true, true, false]) (.c (.int .i64 0)), some ([true, true, false, true, true, false], true)⟩,
  ⟨some [false, true, true, true, true, false], .pick (.s [true, true, false, true, true, false]) (.s [true, false, true, true, true, false]) (.c (.bool false)), none⟩,
  ⟨some [true, true, true, true, true, false], .move (.s [false, true, true, true, true, false]), none⟩,
  ⟨some [false, false, false, false, false, true], .call false (.c (.func 20 [])) [], some ([true, true, true, true, true, false], true)⟩,
  ⟨some [true, false, false, false, false, true], .pick (.s [true, true, true, true, true, false]) (.s [false, false, false, false, false, true]) (.c (.bool false)), none⟩,
  ⟨some [true, true], .move (.s [true, false, false, false, false, true]), none⟩])
def c3_o11 : CCode := .trim [[true, false], [false, true], [false, false, false], [true, false, false], [false, true, false], [true, true, false], [false, false, true], [true, false, true], [false, true, true], [true, true, true]] (.ops [
  ⟨some [true, false, false, true, false, false], .move (.s [true, true, true]), none⟩,
  ⟨some [false, true, false, true, false, false], .bin .add (.s [true, false, false, true, false, false]) (.c (.int .i64 1)), none⟩,
  ⟨some [true, true, true], .move (.s [false, true, false, true, false, false]), none⟩])
def c3_b0 : CCode := (.seq (.seq c3_o8
 (.cond (.s [false, false, false, true, false, false]) .skip (.exit 2)))
 (.seq (.block 3 (.seq c3_o9
 (.cond (.s [false, true, false, false, true, false]) (.seq c3_o10
 .ret) .skip)))
 c3_o11))
def c3_l0 : CCode := .loop [[true, false], [false, true], [false, false, false], [true, false, false], [false, true, false], [true, true, false], [false, false, true], [true, false, true], [false, true, true], [true, true, true]] c3_b0
def c3_o12 : CCode := .trim [[true, false], [false, true], [false, false, false], [true, false, false], [false, true, false], [true, true, false], [false, false, true], [true, false, true], [false, true, true]] (.ops [
  ⟨some [false, false, true, false, false, false], .move (.s [false, true, true]), none⟩,
  ⟨some [true, false, true, false, false, false], .bin .add (.s [false, false, true, false, false, false]) (.c (.int .i64 1)), none⟩,
  ⟨some [false, true, true], .move (.s [true, false, true, false, false, false]), none⟩])
def c3_b1 : CCode := (.seq (.seq c3_o6
 (.cond (.s [true, true, false, false, false, false]) .skip (.exit 0)))
 (.seq (.block 1 (.seq c3_o7
 (.block 2 c3_l0)))
 c3_o12))
def c3_l1 : CCode := .loop [[true, false], [false, true], [false, false, false], [true, false, false], [false, true, false], [true, true, false], [false, false, true], [true, false, true], [false, true, true]] c3_b1
def c3_o13 : CCode := .trim [[true, true, false], [false, false, true], [true, false, true]] (.ops [
  ⟨some [false, true, false, false, false, true], .move (.s [true, true, false]), none⟩,
  ⟨some [true, true, false, false, false, true], .bin .eql (.s [false, true, false, false, false, true]) (.c (.int .i64 0)), none⟩,
  ⟨some [false, false, true, false, false, true], .move (.s [true, true, false, false, false, true]), none⟩,
  ⟨some [true, false, true, false, false, true], .move (.s [false, false, true]), some ([false, false, true, false, false, true], true)⟩,
  ⟨some [false, true, true, false, false, true], .bin .eql (.s [true, false, true, false, false, true]) (.c (.int .i64 0)), some ([false, false, true, false, false, true], true)⟩,
  ⟨some [true, true, true, false, false, true], .pick (.s [false, false, true, false, false, true]) (.s [false, true, true, false, false, true]) (.c (.bool false)), none⟩,
  ⟨some [false, false, false, true, false, true], .move (.s [true, true, true, false, false, true]), none⟩,
  ⟨some [true, false, false, true, false, true], .move (.s [true, false, true]), some ([false, false, false, true, false, true], true)⟩,
  ⟨some [false, true, false, true, false, true], .bin .eql (.s [true, false, false, true, false, true]) (.c (.int .i64 6)), some ([false, false, false, true, false, true], true)⟩,
  ⟨some [true, true, false, true, false, true], .pick (.s [false, false, false, true, false, true]) (.s [false, true, false, true, false, true]) (.c (.bool false)), none⟩,
  ⟨some [false, false, true, true, false, true], .move (.s [true, true, false, true, false, true]), none⟩,
  ⟨some [true, false, true, true, false, true], .call false (.c (.func 20 [])) [], some ([false, false, true, true, false, true], true)⟩,
  ⟨some [false, true, true, true, false, true], .pick (.s [false, false, true, true, false, true]) (.s [true, false, true, true, false, true]) (.c (.bool false)), none⟩,
  ⟨some [true, true], .move (.s [false, true, true, true, false, true]), none⟩])
def c3 : CFunc := { params := [[], [false], [true]], results := [.slot [true, true]], shared := false, body := (.seq c3_o0
 (.seq c3_o1
 (.seq c3_o2
 (.seq (.seq c3_o3
 (.cond (.s [true, true, false, false, true]) (.seq c3_o4
 .ret) .skip))
 (.seq (.seq c3_o5
 (.block 0 c3_l1))
 (.seq c3_o13
 .ret)))))) }
-- numnah/numnahlaw05.SampleSure
-- c4_l0: live slots [3, 4, 5, 6]
def c4_b0 : CCode := (.seq (.seq (.ops [
  ⟨some [false, true, false, false], .move (.s [true, true]), none⟩,
  ⟨some [true, true, false, false], .move (.s [false, false]), none⟩,
  ⟨some [false, false, true, false], .bin .leq (.s [false, true, false, false]) (.s [true, true, false, false]), none⟩])
 (.cond (.s [false, false, true, false]) .skip (.exit 0)))
 (.seq (.block 1 (.seq (.ops [
  ⟨some [false, false, false, true], .move (.s [false, false]), none⟩,
  ⟨some [true, false, false, true], .move (.s [true, true]), none⟩,
  ⟨some [false, true, false, true], .move (.s [true, false]), none⟩,
  ⟨some [true, true, false, true], .move (.s [false, true]), none⟩,
  ⟨some [false, false, true, true], .call false (.c (.func 23 [])) [(.s [false, false, false, true]), (.s [true, false, false, true]), (.s [false, true, false, true]), (.s [true, true, false, true])], none⟩,
  ⟨some [true, true, true, false], .move (.s [false, false, true, true]), none⟩,
  ⟨some [true, false, true, true], .extract 0 (.s [true, true, true, false]), none⟩,
  ⟨some [false, true, true, true], .extract 1 (.s [true, true, true, false]), none⟩,
  ⟨some [false, false, false], .alloc none [.int .i64 0, .int .i64 0], none⟩,
  ⟨none, .store 2 (.s [false, false, false]) (.s [true, false, true, true]), none⟩,
  ⟨some [true, false, false], .move (.s [false, true, true, true]), none⟩])
 (.seq (.draw 0 [
  ⟨some [true, true, true, true], .load (some 2) (.s [false, false, false]), none⟩,
  ⟨some [false, false, false, false, false], .build [.int .i64 0, .int .i64 0] [(0, 1, (.c (.int .i64 1))), (1, 1, (.c (.int .i64 1)))], none⟩,
  ⟨some [true, false, false, false, false], .eqa [.i .i64, .i .i64] false (.s [true, true, true, true]) (.s [false, false, false, false, false]), none⟩,
  ⟨some [false, true, false, false, false], .load (some 2) (.s [false, false, false]), none⟩,
  ⟨some [true, true, false, false, false], .build [.int .i64 0, .int .i64 0] [(0, 1, (.c (.int .i64 0))), (1, 1, (.c (.int .i64 1)))], none⟩,
  ⟨some [false, false, true, false, false], .eqa [.i .i64, .i .i64] false (.s [false, true, false, false, false]) (.s [true, true, false, false, false]), none⟩,
  ⟨some [false, true, false], .move (.s [true, false, false, false, false]), none⟩,
  ⟨some [true, true, false], .move (.s [false, false, true, false, false]), none⟩]
  [(0, 3)] [[], [], [0, 1], [], [], [3, 4], [0, 1, 2], [0, 1, 2, 3, 4, 5, 6]])
 (.seq (.ops [
  ⟨some [true, false, true, false, false], .move (.s [true, false, false]), none⟩,
  ⟨some [false, true, true, false, false], .bin .neq (.s [true, false, true, false, false]) (.c (.int .i64 0)), none⟩,
  ⟨some [true, true, true, false, false], .move (.s [false, true, true, false, false]), none⟩,
  ⟨some [false, false, false, true, false], .move (.s [false, true, false]), some ([true, true, true, false, false], false)⟩,
  ⟨some [true, false, false, true, false], .move (.s [true, true]), some ([true, true, true, false, false], false)⟩,
  ⟨some [false, true, false, true, false], .move (.s [false, true]), some ([true, true, true, false, false], false)⟩,
  ⟨some [true, true, false, true, false], .bin .leq (.s [true, false, false, true, false]) (.s [false, true, false, true, false]), some ([true, true, true, false, false], false)⟩,
  ⟨some [false, false, true, true, false], .eqv 0 true (.s [false, false, false, true, false]) (.s [true, true, false, true, false]), some ([true, true, true, false, false], false)⟩,
  ⟨some [true, false, true, true, false], .pick (.s [true, true, true, false, false]) (.c (.bool true)) (.s [false, false, true, true, false]), none⟩,
  ⟨some [false, true, true, true, false], .move (.s [true, false, true, true, false]), none⟩,
  ⟨some [true, true, true, true, false], .move (.s [true, true, false]), some ([false, true, true, true, false], false)⟩,
  ⟨some [false, false, false, false, true], .move (.s [true, true]), some ([false, true, true, true, false], false)⟩,
  ⟨some [true, false, false, false, true], .move (.s [false, false]), some ([false, true, true, true, false], false)⟩,
  ⟨some [false, true, false, false, true], .move (.s [true, false]), some ([false, true, true, true, false], false)⟩,
  ⟨some [true, true, false, false, true], .bin .sub (.s [true, false, false, false, true]) (.s [false, true, false, false, true]), some ([false, true, true, true, false], false)⟩,
  ⟨some [false, false, true, false, true], .move (.s [false, true]), some ([false, true, true, true, false], false)⟩,
  ⟨some [true, false, true, false, true], .bin .add (.s [true, true, false, false, true]) (.s [false, false, true, false, true]), some ([false, true, true, true, false], false)⟩,
  ⟨some [false, true, true, false, true], .bin .gtr (.s [false, false, false, false, true]) (.s [true, false, true, false, true]), some ([false, true, true, true, false], false)⟩,
  ⟨some [true, true, true, false, true], .eqv 0 true (.s [true, true, true, true, false]) (.s [false, true, true, false, true]), some ([false, true, true, true, false], false)⟩,
  ⟨some [false, false, false, true, true], .pick (.s [false, true, true, true, false]) (.c (.bool true)) (.s [true, true, true, false, true]), none⟩])
 (.cond (.s [false, false, false, true, true]) (.seq (.ops [
  ⟨some [true], .move (.c (.bool false)), none⟩])
 .ret) .skip)))))
 (.ops [
  ⟨some [true, false, true, false], .move (.s [true, true]), none⟩,
  ⟨some [false, true, true, false], .bin .add (.s [true, false, true, false]) (.c (.int .i64 1)), none⟩,
  ⟨some [true, true], .move (.s [false, true, true, false]), none⟩])))
def c4_l0 : CCode := .loop [[false, false], [true, false], [false, true], [true, true]] c4_b0
def c4 : CFunc := { params := [[]], results := [.slot [true]], shared := false, body := (.seq (.ops [
  ⟨some [false], .box none (.s []), none⟩,
  ⟨some [true], .move (.c (.bool false)), none⟩])
 (.seq (.ops [
  ⟨some [true, false, true], .load (some 3) (.s [false]), none⟩,
  ⟨some [false, true, true], .call false (.c (.func 22 [])) [(.s [true, false, true])], none⟩,
  ⟨some [false, false, true], .move (.s [false, true, true]), none⟩,
  ⟨some [true, true, true], .extract 0 (.s [false, false, true]), none⟩,
  ⟨some [false, false, false, false], .extract 1 (.s [false, false, true]), none⟩,
  ⟨some [true, false, false, false], .extract 2 (.s [false, false, true]), none⟩,
  ⟨some [false, false], .move (.s [true, true, true]), none⟩,
  ⟨some [true, false], .move (.s [false, false, false, false]), none⟩,
  ⟨some [false, true], .move (.s [true, false, false, false]), none⟩])
 (.seq (.seq (.ops [
  ⟨some [true, true], .move (.c (.int .i64 0)), none⟩])
 (.block 0 c4_l0))
 (.seq (.ops [
  ⟨some [true, false, false, true, true], .call false (.c (.func 20 [])) [], none⟩,
  ⟨some [true], .move (.s [true, false, false, true, true]), none⟩])
 .ret)))) }
-- numnah/numnahlaw05.SampleFirst
-- c5_o0: 0=[] 1=[f] 2=[t]
-- c5_o1: 3=[f, f] 4=[t, f] 5=[f, t]
-- c5_o2: 3=[f, f] 4=[t, f] 5=[f, t] 7=[f, f, f]
-- c5_o3: 4=[t, f] 5=[f, t] 7=[f, f, f] 8=[t, f, f] 9=[f, t, f]
-- c5_o4: 4=[t, f] 5=[f, t] 7=[f, f, f] 8=[t, f, f] 9=[f, t, f] 10=[t, t, f] 11=[f, f, t]
-- c5_o5: 4=[t, f] 7=[f, f, f] 8=[t, f, f] 9=[f, t, f] 12=[t, f, t] 13=[f, t, t]
-- c5_o6: 4=[t, f] 7=[f, f, f] 8=[t, f, f] 9=[f, t, f] 12=[t, f, t] 13=[f, t, t] 14=[t, t, t] 15=[f, f, f, f] 16=[t, f, f, f]
-- c5_o7: 4=[t, f] 7=[f, f, f] 8=[t, f, f] 9=[f, t, f] 12=[t, f, t] 13=[f, t, t] 14=[t, t, t] 15=[f, f, f, f] 16=[t, f, f, f] 17=[f, t, f, f]
-- c5_o8: 7=[f, f, f] 8=[t, f, f] 9=[f, t, f] 12=[t, f, t] 13=[f, t, t] 14=[t, t, t] 15=[f, f, f, f] 16=[t, f, f, f] 17=[f, t, f, f] 18=[t, t, f, f]
-- c5_o9: 7=[f, f, f] 8=[t, f, f] 9=[f, t, f] 12=[t, f, t] 13=[f, t, t] 14=[t, t, t] 15=[f, f, f, f] 16=[t, f, f, f] 17=[f, t, f, f] 18=[t, t, f, f] 19=[f, f, t, f] 20=[t, f, t, f]
-- c5_o10: 7=[f, f, f] 8=[t, f, f] 9=[f, t, f] 12=[t, f, t] 13=[f, t, t] 14=[t, t, t] 15=[f, f, f, f] 16=[t, f, f, f] 17=[f, t, f, f] 18=[t, t, f, f] 19=[f, f, t, f] 20=[t, f, t, f] 21=[f, t, t, f] 22=[t, t, t, f]
-- c5_o11: 
-- c5_o12: 7=[f, f, f] 8=[t, f, f] 9=[f, t, f] 12=[t, f, t] 13=[f, t, t] 14=[t, t, t] 15=[f, f, f, f] 16=[t, f, f, f] 17=[f, t, f, f] 18=[t, t, f, f] 19=[f, f, t, f] 21=[f, t, t, f]
-- c5_o13: 7=[f, f, f] 8=[t, f, f] 9=[f, t, f] 12=[t, f, t] 13=[f, t, t] 14=[t, t, t] 15=[f, f, f, f] 16=[t, f, f, f] 17=[f, t, f, f] 18=[t, t, f, f] 23=[f, f, f, t]
-- c5_o14: 16=[t, f, f, f] 23=[f, f, f, t]
-- c5_o15: 7=[f, f, f] 8=[t, f, f] 9=[f, t, f] 12=[t, f, t] 13=[f, t, t] 14=[t, t, t] 15=[f, f, f, f] 17=[f, t, f, f] 18=[t, t, f, f] 23=[f, f, f, t]
-- c5_o16: 7=[f, f, f] 9=[f, t, f] 12=[t, f, t] 13=[f, t, t] 14=[t, t, t] 15=[f, f, f, f] 17=[f, t, f, f] 18=[t, t, f, f] 23=[f, f, f, t] 24=[t, f, f, t] 25=[f, t, f, t]
-- c5_o17: 12=[t, f, t] 13=[f, t, t] 14=[t, t, t] 15=[f, f, f, f] 17=[f, t, f, f] 18=[t, t, f, f] 23=[f, f, f, t] 24=[t, f, f, t] 25=[f, t, f, t] 26=[t, t, f, t] 27=[f, f, t, t]
-- c5_o18: 
-- c5_o19: 14=[t, t, t] 15=[f, f, f, f] 17=[f, t, f, f] 18=[t, t, f, f] 23=[f, f, f, t]
def c5_o0 : CCode := .trim [[], [false], [true]] (.ops [
  ⟨some [false, false], .box none (.s []), none⟩,
  ⟨some [true, false], .box none (.s [false]), none⟩,
  ⟨some [false, true], .box none (.s [true]), none⟩,
  ⟨some [true, true], .move (.c (.bool false)), none⟩])
def c5_o1 : CCode := .trim [[false, false], [true, false], [false, true]] (.ops [
  ⟨some [true, false, true, true], .idxArr 3 1 (.s [false, false]) (.c (.int .i64 0)), none⟩,
  ⟨some [false, true, true, true], .load none (.s [true, false, true, true]), none⟩,
  ⟨some [true, true, true, true], .call false (.c (.func 24 [])) [(.s [false, true, true, true]), (.c (.int .i64 36))], none⟩,
  ⟨some [false, false, false, false, false], .bin .add (.c (.int .i64 1)) (.s [true, true, true, true]), none⟩,
  ⟨some [false, false, false], .move (.s [false, false, false, false, false]), none⟩])
def c5_o2 : CCode := .trim [[false, false], [true, false], [false, true], [false, false, false]] (.draw 0 [
  ⟨some [true, false, false, false, false], .idxArr 3 1 (.s [false, false]) (.c (.int .i64 1)), none⟩,
  ⟨some [false, true, false, false, false], .load none (.s [true, false, false, false, false]), none⟩,
  ⟨some [true, true, false, false, false], .move (.s [false, false, false]), none⟩,
  ⟨some [false, false, true, false, false], .bin .add (.s [true, true, false, false, false]) (.c (.int .i64 1)), none⟩,
  ⟨some [true, false, true, false, false], .call false (.c (.func 24 [])) [(.s [false, true, false, false, false]), (.s [false, false, true, false, false])], none⟩,
  ⟨some [false, true, true, false, false], .idxArr 3 1 (.s [false, false]) (.c (.int .i64 2)), none⟩,
  ⟨some [true, true, true, false, false], .load none (.s [false, true, true, false, false]), none⟩,
  ⟨some [false, false, false, true, false], .move (.s [false, false, false]), none⟩,
  ⟨some [true, false, false, true, false], .bin .add (.s [false, false, false, true, false]) (.c (.int .i64 1)), none⟩,
  ⟨some [false, true, false, true, false], .call false (.c (.func 24 [])) [(.s [true, true, true, false, false]), (.s [true, false, false, true, false])], none⟩,
  ⟨some [true, false, false], .move (.s [true, false, true, false, false]), none⟩,
  ⟨some [false, true, false], .move (.s [false, true, false, true, false]), none⟩]
  [(1, 6), (4, 6)] [[], [0], [], [2], [0, 1, 2, 3], [], [5], [], [7], [0, 1, 2, 3, 4, 5, 6, 7, 8], [0, 1, 2, 3, 4, 5, 6, 7, 8, 9], [0, 1, 2, 3, 4, 5, 6, 7, 8, 9, 10]])
def c5_o3 : CCode := .trim [[true, false], [false, true], [false, false, false], [true, false, false], [false, true, false]] (.draw 0 [
  ⟨some [true, true, false, true, false], .idxArr 4 1 (.s [false, true]) (.c (.int .i64 0)), none⟩,
  ⟨some [false, false, true, true, false], .load none (.s [true, true, false, true, false]), none⟩,
  ⟨some [true, false, true, true, false], .call false (.c (.func 24 [])) [(.s [false, false, true, true, false]), (.c (.int .i64 1000))], none⟩,
  ⟨some [false, true, true, true, false], .bin .add (.c (.int .i64 1)) (.s [true, false, true, true, false]), none⟩,
  ⟨some [true, true, true, true, false], .idxArr 4 1 (.s [false, true]) (.c (.int .i64 2)), none⟩,
  ⟨some [false, false, false, false, true], .load none (.s [true, true, true, true, false]), none⟩,
  ⟨some [true, false, false, false, true], .call false (.c (.func 24 [])) [(.s [false, false, false, false, true]), (.c (.int .i64 1000))], none⟩,
  ⟨some [false, true, false, false, true], .bin .add (.c (.int .i64 1)) (.s [true, false, false, false, true]), none⟩,
  ⟨some [true, true, false], .move (.s [false, true, true, true, false]), none⟩,
  ⟨some [false, false, true], .move (.s [false, true, false, false, true]), none⟩]
  [(1, 5), (2, 5)] [[], [0], [0, 1], [0, 1, 2], [], [4], [0, 1, 2, 4, 5], [0, 1, 2, 4, 5, 6], [0, 1, 2, 3, 4, 5, 6], [0, 1, 2, 3, 4, 5, 6, 7, 8]])
def c5_o4 : CCode := .trim [[true, false], [false, true], [false, false, false], [true, false, false], [false, true, false], [true, true, false], [false, false, true]] (.draw 2 [
  ⟨some [true, true, false, false, true], .idxArr 4 1 (.s [false, true]) (.c (.int .i64 1)), none⟩,
  ⟨some [false, false, true, false, true], .load none (.s [true, true, false, false, true]), none⟩,
  ⟨some [true, false, true, false, true], .move (.s [true, true, false]), none⟩,
  ⟨some [false, true, true, false, true], .bin .add (.s [true, false, true, false, true]) (.c (.int .i64 1)), none⟩,
  ⟨some [true, true, true, false, true], .call true (.c (.func 24 [])) [(.s [false, false, true, false, true]), (.s [false, true, true, false, true])], none⟩,
  ⟨some [false, false, false, true, true], .move (.s [true, true, false]), none⟩,
  ⟨some [true, false, false, true, true], .call true (.c (.func 25 [])) [(.s [true, true, true, false, true]), (.s [false, false, false, true, true])], none⟩,
  ⟨some [false, true, false, true, true], .idxArr 4 1 (.s [false, true]) (.c (.int .i64 3)), none⟩,
  ⟨some [true, true, false, true, true], .load none (.s [false, true, false, true, true]), none⟩,
  ⟨some [false, false, true, true, true], .move (.s [false, false, true]), none⟩,
  ⟨some [true, false, true, true, true], .bin .add (.s [false, false, true, true, true]) (.c (.int .i64 1)), none⟩,
  ⟨some [false, true, true, true, true], .call true (.c (.func 24 [])) [(.s [true, true, false, true, true]), (.s [true, false, true, true, true])], none⟩,
  ⟨some [true, true, true, true, true], .move (.s [false, false, true]), none⟩,
  ⟨some [false, false, false, false, false, false], .call true (.c (.func 25 [])) [(.s [false, true, true, true, true]), (.s [true, true, true, true, true])], none⟩,
  ⟨some [true, false, true], .alloc (some 0) [.int .i64 0, .int .i64 0], none⟩,
  ⟨some [false, true, true], .alloc (some 1) [.int .i64 0, .int .i64 0], none⟩,
  ⟨none, .store 2 (.s [true, false, true]) (.s [true, false, false, true, true]), none⟩,
  ⟨none, .store 2 (.s [false, true, true]) (.s [false, false, false, false, false, false]), none⟩]
  [(1, 8), (4, 8), (6, 8), (1, 14), (4, 14), (6, 14), (8, 14), (11, 14), (13, 14), (1, 15), (4, 15), (6, 15), (8, 15), (11, 15), (13, 15), (14, 15)] [[], [0], [], [2], [0, 1, 2, 3], [], [0, 1, 2, 3, 4, 5], [], [7], [], [9], [0, 1, 2, 3, 4, 5, 6, 7, 8, 9, 10], [], [0, 1, 2, 3, 4, 5, 6, 7, 8, 9, 10, 11, 12], [], [], [0, 1, 2, 3, 4, 5, 6, 7, 8, 9, 10, 11, 12, 13, 14, 15], [0, 1, 2, 3, 4, 5, 6, 7, 8, 9, 10, 11, 12, 13, 14, 15, 16]])
def c5_o5 : CCode := .trim [[true, false], [false, false, false], [true, false, false], [false, true, false], [true, false, true], [false, true, true]] (.ops [
  ⟨some [false, true, false, false, false, false], .move (.s [false, false, false]), none⟩,
  ⟨some [true, true, false, false, false, false], .move (.s [true, false, false]), none⟩,
  ⟨some [false, false, true, false, false, false], .move (.s [false, true, false]), none⟩,
  ⟨some [true, false, true, false, false, false], .load (some 2) (.s [true, false, true]), none⟩,
  ⟨some [false, true, true, false, false, false], .load (some 2) (.s [false, true, true]), none⟩,
  ⟨some [true, true, true, false, false, false], .call false (.c (.func 17 [])) [(.s [false, true, false, false, false, false]), (.s [true, true, false, false, false, false]), (.s [false, false, true, false, false, false]), (.s [true, false, true, false, false, false]), (.s [false, true, true, false, false, false])], none⟩,
  ⟨some [true, false, false, false, false, false], .move (.s [true, true, true, false, false, false]), none⟩,
  ⟨some [false, false, false, true, false, false], .extract 0 (.s [true, false, false, false, false, false]), none⟩,
  ⟨some [true, false, false, true, false, false], .extract 1 (.s [true, false, false, false, false, false]), none⟩,
  ⟨some [false, true, false, true, false, false], .extract 2 (.s [true, false, false, false, false, false]), none⟩,
  ⟨some [true, true, true], .move (.s [false, false, false, true, false, false]), none⟩,
  ⟨some [false, false, false, false], .move (.s [true, false, false, true, false, false]), none⟩,
  ⟨some [true, false, false, false], .move (.s [false, true, false, true, false, false]), none⟩])
def c5_o6 : CCode := .trim [[true, false], [false, false, false], [true, false, false], [false, true, false], [true, false, true], [false, true, true], [true, true, true], [false, false, false, false], [true, false, false, false]] (.ops [
  ⟨some [true, true, false, true, false, false], .idxArr 2 1 (.s [true, false]) (.c (.int .i64 0)), none⟩,
  ⟨some [false, false, true, true, false, false], .load none (.s [true, true, false, true, false, false]), none⟩,
  ⟨some [true, false, true, true, false, false], .move (.s [false, false, false]), none⟩,
  ⟨some [false, true, true, true, false, false], .call false (.c (.func 24 [])) [(.s [false, false, true, true, false, false]), (.s [true, false, true, true, false, false])], none⟩,
  ⟨some [true, true, true, true, false, false], .bin .add (.c (.int .i64 1)) (.s [false, true, true, true, false, false]), none⟩,
  ⟨some [false, true, false, false], .move (.s [true, true, true, true, false, false]), none⟩])
def c5_o7 : CCode := .trim [[true, false], [false, false, false], [true, false, false], [false, true, false], [true, false, true], [false, true, true], [true, true, true], [false, false, false, false], [true, false, false, false], [false, true, false, false]] (.ops [
  ⟨some [false, false, false, false, true, false], .idxArr 2 1 (.s [true, false]) (.c (.int .i64 1)), none⟩,
  ⟨some [true, false, false, false, true, false], .load none (.s [false, false, false, false, true, false]), none⟩,
  ⟨some [false, true, false, false, true, false], .move (.s [false, true, false, false]), none⟩,
  ⟨some [true, true, false, false, true, false], .call false (.c (.func 24 [])) [(.s [true, false, false, false, true, false]), (.s [false, true, false, false, true, false])], none⟩,
  ⟨some [true, true, false, false], .move (.s [true, true, false, false, true, false]), none⟩])
def c5_o8 : CCode := .trim [[false, false, false], [true, false, false], [false, true, false], [true, false, true], [false, true, true], [true, true, true], [false, false, false, false], [true, false, false, false], [false, true, false, false], [true, true, false, false]] (.ops [
  ⟨some [true, false, true, false, true, false], .move (.s [false, false, false]), none⟩,
  ⟨some [false, true, true, false, true, false], .move (.s [true, false, false]), none⟩,
  ⟨some [true, true, true, false, true, false], .move (.s [false, true, false, false]), none⟩,
  ⟨some [false, false, false, true, true, false], .move (.s [true, true, false, false]), none⟩,
  ⟨some [true, false, false, true, true, false], .call false (.c (.func 23 [])) [(.s [true, false, true, false, true, false]), (.s [false, true, true, false, true, false]), (.s [true, true, true, false, true, false]), (.s [false, false, false, true, true, false])], none⟩,
  ⟨some [false, false, true, false, true, false], .move (.s [true, false, false, true, true, false]), none⟩,
  ⟨some [false, true, false, true, true, false], .extract 0 (.s [false, false, true, false, true, false]), none⟩,
  ⟨some [true, true, false, true, true, false], .extract 1 (.s [false, false, true, false, true, false]), none⟩,
  ⟨some [false, false, true, false], .alloc none [.int .i64 0, .int .i64 0], none⟩,
  ⟨none, .store 2 (.s [false, false, true, false]) (.s [false, true, false, true, true, false]), none⟩,
  ⟨some [true, false, true, false], .move (.s [true, true, false, true, true, false]), none⟩])
def c5_o9 : CCode := .trim [[false, false, false], [true, false, false], [false, true, false], [true, false, true], [false, true, true], [true, true, true], [false, false, false, false], [true, false, false, false], [false, true, false, false], [true, true, false, false], [false, false, true, false], [true, false, true, false]] (.ops [
  ⟨some [true, false, true, true, true, false], .move (.s [false, false, false]), none⟩,
  ⟨some [false, true, true, true, true, false], .move (.s [false, true, false]), none⟩,
  ⟨some [true, true, true, true, true, false], .move (.s [false, true, false, false]), none⟩,
  ⟨some [false, false, false, false, false, true], .move (.s [true, true, false, false]), none⟩,
  ⟨some [true, false, false, false, false, true], .call false (.c (.func 23 [])) [(.s [true, false, true, true, true, false]), (.s [false, true, true, true, true, false]), (.s [true, true, true, true, true, false]), (.s [false, false, false, false, false, true])], none⟩,
  ⟨some [false, false, true, true, true, false], .move (.s [true, false, false, false, false, true]), none⟩,
  ⟨some [false, true, false, false, false, true], .extract 0 (.s [false, false, true, true, true, false]), none⟩,
  ⟨some [true, true, false, false, false, true], .extract 1 (.s [false, false, true, true, true, false]), none⟩,
  ⟨some [false, true, true, false], .alloc none [.int .i64 0, .int .i64 0], none⟩,
  ⟨none, .store 2 (.s [false, true, true, false]) (.s [false, true, false, false, false, true]), none⟩,
  ⟨some [true, true, true, false], .move (.s [true, true, false, false, false, true]), none⟩])
def c5_o10 : CCode := .trim [[false, false, false], [true, false, false], [false, true, false], [true, false, true], [false, true, true], [true, true, true], [false, false, false, false], [true, false, false, false], [false, true, false, false], [true, true, false, false], [false, false, true, false], [true, false, true, false], [false, true, true, false], [true, true, true, false]] (.ops [
  ⟨some [false, false, true, false, false, true], .move (.s [true, false, true, false]), none⟩,
  ⟨some [true, false, true, false, false, true], .bin .neq (.s [false, false, true, false, false, true]) (.c (.int .i64 0)), none⟩,
  ⟨some [false, true, true, false, false, true], .move (.s [true, false, true, false, false, true]), none⟩,
  ⟨some [true, true, true, false, false, true], .move (.s [true, true, true, false]), some ([false, true, true, false, false, true], false)⟩,
  ⟨some [false, false, false, true, false, true], .bin .neq (.s [true, true, true, false, false, true]) (.c (.int .i64 0)), some ([false, true, true, false, false, true], false)⟩,
  ⟨some [true, false, false, true, false, true], .pick (.s [false, true, true, false, false, true]) (.c (.bool true)) (.s [false, false, false, true, false, true]), none⟩,
  ⟨some [false, true, false, true, false, true], .move (.s [true, false, false, true, false, true]), none⟩,
  ⟨some [true, true, false, true, false, true], .load (some 2) (.s [false, false, true, false]), some ([false, true, false, true, false, true], false)⟩,
  ⟨some [false, false, true, true, false, true], .call false (.c (.func 26 [])) [(.s [true, true, false, true, false, true])], some ([false, true, false, true, false, true], false)⟩,
  ⟨some [true, false, true, true, false, true], .un .not (.s [false, false, true, true, false, true]), some ([false, true, false, true, false, true], false)⟩,
  ⟨some [false, true, true, true, false, true], .pick (.s [false, true, false, true, false, true]) (.c (.bool true)) (.s [true, false, true, true, false, true]), none⟩,
  ⟨some [true, true, true, true, false, true], .move (.s [false, true, true, true, false, true]), none⟩,
  ⟨some [false, false, false, false, true, true], .load (some 2) (.s [false, true, true, false]), some ([true, true, true, true, false, true], false)⟩,
  ⟨some [true, false, false, false, true, true], .call false (.c (.func 26 [])) [(.s [false, false, false, false, true, true])], some ([true, true, true, true, false, true], false)⟩,
  ⟨some [false, true, false, false, true, true], .un .not (.s [true, false, false, false, true, true]), some ([true, true, true, true, false, true], false)⟩,
  ⟨some [true, true, false, false, true, true], .pick (.s [true, true, true, true, false, true]) (.c (.bool true)) (.s [false, true, false, false, true, true]), none⟩])
def c5_o11 : CCode := .trim [] (.ops [
  ⟨some [true, true], .move (.c (.bool false)), none⟩])
def c5_o12 : CCode := .trim [[false, false, false], [true, false, false], [false, true, false], [true, false, true], [false, true, true], [true, true, true], [false, false, false, false], [true, false, false, false], [false, true, false, false], [true, true, false, false], [false, false, true, false], [false, true, true, false]] (.ops [
  ⟨some [false, false, true, false, true, true], .load (some 2) (.s [false, false, true, false]), none⟩,
  ⟨some [true, false, true, false, true, true], .load (some 2) (.s [true, false, true]), none⟩,
  ⟨some [false, true, true, false, true, true], .call false (.c (.func 27 [])) [(.s [false, false, true, false, true, true]), (.s [true, false, true, false, true, true])], none⟩,
  ⟨some [true, true, true, false, true, true], .un .not (.s [false, true, true, false, true, true]), none⟩,
  ⟨some [false, false, false, true, true, true], .move (.s [true, true, true, false, true, true]), none⟩,
  ⟨some [true, false, false, true, true, true], .load (some 2) (.s [false, true, true]), some ([false, false, false, true, true, true], true)⟩,
  ⟨some [false, true, false, true, true, true], .load (some 2) (.s [false, true, true, false]), some ([false, false, false, true, true, true], true)⟩,
  ⟨some [true, true, false, true, true, true], .call false (.c (.func 27 [])) [(.s [true, false, false, true, true, true]), (.s [false, true, false, true, true, true])], some ([false, false, false, true, true, true], true)⟩,
  ⟨some [false, false, true, true, true, true], .un .not (.s [true, true, false, true, true, true]), some ([false, false, false, true, true, true], true)⟩,
  ⟨some [true, false, true, true, true, true], .pick (.s [false, false, false, true, true, true]) (.s [false, false, true, true, true, true]) (.c (.bool false)), none⟩,
  ⟨some [false, false, false, true], .move (.s [true, false, true, true, true, true]), none⟩])
def c5_o13 : CCode := .trim [[false, false, false], [true, false, false], [false, true, false], [true, false, true], [false, true, true], [true, true, true], [false, false, false, false], [true, false, false, false], [false, true, false, false], [true, true, false, false], [false, false, false, true]] (.ops [
  ⟨some [false, true, true, true, true, true], .move (.s [true, false, false, false]), none⟩,
  ⟨some [true, true, true, true, true, true], .bin .neq (.s [false, true, true, true, true, true]) (.c (.int .i64 0)), none⟩])
def c5_o14 : CCode := .trim [[true, false, false, false], [false, false, false, true]] (.ops [
  ⟨some [false, false, false, false, false, false, false], .move (.s [true, false, false, false]), none⟩,
  ⟨some [true, false, false, false, false, false, false], .bin .eql (.s [false, false, false, false, false, false, false]) (.c (.int .i64 6)), none⟩,
  ⟨some [false, true, false, false, false, false, false], .move (.s [true, false, false, false, false, false, false]), none⟩,
  ⟨some [true, true, false, false, false, false, false], .move (.s [false, false, false, true]), some ([false, true, false, false, false, false, false], true)⟩,
  ⟨some [false, false, true, false, false, false, false], .un .not (.s [true, true, false, false, false, false, false]), some ([false, true, false, false, false, false, false], true)⟩,
  ⟨some [true, false, true, false, false, false, false], .pick (.s [false, true, false, false, false, false, false]) (.s [false, false, true, false, false, false, false]) (.c (.bool false)), none⟩,
  ⟨some [false, true, true, false, false, false, false], .move (.s [true, false, true, false, false, false, false]), none⟩,
  ⟨some [true, true, true, false, false, false, false], .call false (.c (.func 20 [])) [], some ([false, true, true, false, false, false, false], true)⟩,
  ⟨some [false, false, false, true, false, false, false], .pick (.s [false, true, true, false, false, false, false]) (.s [true, true, true, false, false, false, false]) (.c (.bool false)), none⟩,
  ⟨some [true, true], .move (.s [false, false, false, true, false, false, false]), none⟩])
def c5_o15 : CCode := .trim [[false, false, false], [true, false, false], [false, true, false], [true, false, true], [false, true, true], [true, true, true], [false, false, false, false], [false, true, false, false], [true, true, false, false], [false, false, false, true]] (.ops [
  ⟨some [false, true, false, true, false, false, false], .move (.s [false, false, false]), none⟩,
  ⟨some [true, true, false, true, false, false, false], .move (.s [true, false, false]), none⟩,
  ⟨some [false, false, true, true, false, false, false], .move (.s [true, true, true]), none⟩,
  ⟨some [true, false, true, true, false, false, false], .move (.s [false, false, false, false]), none⟩,
  ⟨some [false, true, true, true, false, false, false], .call false (.c (.func 23 [])) [(.s [false, true, false, true, false, false, false]), (.s [true, true, false, true, false, false, false]), (.s [false, false, true, true, false, false, false]), (.s [true, false, true, true, false, false, false])], none⟩,
  ⟨some [true, false, false, true, false, false, false], .move (.s [false, true, true, true, false, false, false]), none⟩,
  ⟨some [true, true, true, true, false, false, false], .extract 0 (.s [true, false, false, true, false, false, false]), none⟩,
  ⟨some [false, false, false, false, true, false, false], .extract 1 (.s [true, false, false, true, false, false, false]), none⟩,
  ⟨some [true, false, false, true], .alloc none [.int .i64 0, .int .i64 0], none⟩,
  ⟨none, .store 2 (.s [true, false, false, true]) (.s [true, true, true, true, false, false, false]), none⟩,
  ⟨some [false, true, false, true], .move (.s [false, false, false, false, true, false, false]), none⟩])
def c5_o16 : CCode := .trim [[false, false, false], [false, true, false], [true, false, true], [false, true, true], [true, true, true], [false, false, false, false], [false, true, false, false], [true, true, false, false], [false, false, false, true], [true, false, false, true], [false, true, false, true]] (.ops [
  ⟨some [false, true, false, false, true, false, false], .move (.s [false, false, false]), none⟩,
  ⟨some [true, true, false, false, true, false, false], .move (.s [false, true, false]), none⟩,
  ⟨some [false, false, true, false, true, false, false], .move (.s [true, true, true]), none⟩,
  ⟨some [true, false, true, false, true, false, false], .move (.s [false, false, false, false]), none⟩,
  ⟨some [false, true, true, false, true, false, false], .call false (.c (.func 23 [])) [(.s [false, true, false, false, true, false, false]), (.s [true, true, false, false, true, false, false]), (.s [false, false, true, false, true, false, false]), (.s [true, false, true, false, true, false, false])], none⟩,
  ⟨some [true, false, false, false, true, false, false], .move (.s [false, true, true, false, true, false, false]), none⟩,
  ⟨some [true, true, true, false, true, false, false], .extract 0 (.s [true, false, false, false, true, false, false]), none⟩,
  ⟨some [false, false, false, true, true, false, false], .extract 1 (.s [true, false, false, false, true, false, false]), none⟩,
  ⟨some [true, true, false, true], .alloc none [.int .i64 0, .int .i64 0], none⟩,
  ⟨none, .store 2 (.s [true, true, false, true]) (.s [true, true, true, false, true, false, false]), none⟩,
  ⟨some [false, false, true, true], .move (.s [false, false, false, true, true, false, false]), none⟩])
def c5_o17 : CCode := .trim [[true, false, true], [false, true, true], [true, true, true], [false, false, false, false], [false, true, false, false], [true, true, false, false], [false, false, false, true], [true, false, false, true], [false, true, false, true], [true, true, false, true], [false, false, true, true]] (.ops [
  ⟨some [true, false, false, true, true, false, false], .move (.s [false, true, false, true]), none⟩,
  ⟨some [false, true, false, true, true, false, false], .bin .neq (.s [true, false, false, true, true, false, false]) (.c (.int .i64 0)), none⟩,
  ⟨some [true, true, false, true, true, false, false], .move (.s [false, true, false, true, true, false, false]), none⟩,
  ⟨some [false, false, true, true, true, false, false], .move (.s [false, false, true, true]), some ([true, true, false, true, true, false, false], false)⟩,
  ⟨some [true, false, true, true, true, false, false], .bin .neq (.s [false, false, true, true, true, false, false]) (.c (.int .i64 0)), some ([true, true, false, true, true, false, false], false)⟩,
  ⟨some [false, true, true, true, true, false, false], .pick (.s [true, true, false, true, true, false, false]) (.c (.bool true)) (.s [true, false, true, true, true, false, false]), none⟩,
  ⟨some [true, true, true, true, true, false, false], .move (.s [false, true, true, true, true, false, false]), none⟩,
  ⟨some [false, false, false, false, false, true, false], .load (some 2) (.s [true, false, false, true]), some ([true, true, true, true, true, false, false], false)⟩,
  ⟨some [true, false, false, false, false, true, false], .call false (.c (.func 26 [])) [(.s [false, false, false, false, false, true, false])], some ([true, true, true, true, true, false, false], false)⟩,
  ⟨some [false, true, false, false, false, true, false], .un .not (.s [true, false, false, false, false, true, false]), some ([true, true, true, true, true, false, false], false)⟩,
  ⟨some [true, true, false, false, false, true, false], .pick (.s [true, true, true, true, true, false, false]) (.c (.bool true)) (.s [false, true, false, false, false, true, false]), none⟩,
  ⟨some [false, false, true, false, false, true, false], .move (.s [true, true, false, false, false, true, false]), none⟩,
  ⟨some [true, false, true, false, false, true, false], .load (some 2) (.s [true, true, false, true]), some ([false, false, true, false, false, true, false], false)⟩,
  ⟨some [false, true, true, false, false, true, false], .call false (.c (.func 26 [])) [(.s [true, false, true, false, false, true, false])], some ([false, false, true, false, false, true, false], false)⟩,
  ⟨some [true, true, true, false, false, true, false], .un .not (.s [false, true, true, false, false, true, false]), some ([false, false, true, false, false, true, false], false)⟩,
  ⟨some [false, false, false, true, false, true, false], .pick (.s [false, false, true, false, false, true, false]) (.c (.bool true)) (.s [true, true, true, false, false, true, false]), none⟩,
  ⟨some [true, false, false, true, false, true, false], .move (.s [false, false, false, true, false, true, false]), none⟩,
  ⟨some [false, true, false, true, false, true, false], .load (some 2) (.s [true, false, false, true]), some ([true, false, false, true, false, true, false], false)⟩,
  ⟨some [true, true, false, true, false, true, false], .load (some 2) (.s [true, false, true]), some ([true, false, false, true, false, true, false], false)⟩,
  ⟨some [false, false, true, true, false, true, false], .call false (.c (.func 27 [])) [(.s [false, true, false, true, false, true, false]), (.s [true, true, false, true, false, true, false])], some ([true, false, false, true, false, true, false], false)⟩,
  ⟨some [true, false, true, true, false, true, false], .pick (.s [true, false, false, true, false, true, false]) (.c (.bool true)) (.s [false, false, true, true, false, true, false]), none⟩,
  ⟨some [false, true, true, true, false, true, false], .move (.s [true, false, true, true, false, true, false]), none⟩,
  ⟨some [true, true, true, true, false, true, false], .load (some 2) (.s [false, true, true]), some ([false, true, true, true, false, true, false], false)⟩,
  ⟨some [false, false, false, false, true, true, false], .load (some 2) (.s [true, true, false, true]), some ([false, true, true, true, false, true, false], false)⟩,
  ⟨some [true, false, false, false, true, true, false], .call false (.c (.func 27 [])) [(.s [true, true, true, true, false, true, false]), (.s [false, false, false, false, true, true, false])], some ([false, true, true, true, false, true, false], false)⟩,
  ⟨some [false, true, false, false, true, true, false], .pick (.s [false, true, true, true, false, true, false]) (.c (.bool true)) (.s [true, false, false, false, true, true, false]), none⟩])
def c5_o18 : CCode := .trim [] (.ops [
  ⟨some [true, true], .move (.c (.bool false)), none⟩])
def c5_o19 : CCode := .trim [[true, true, true], [false, false, false, false], [false, true, false, false], [true, true, false, false], [false, false, false, true]] (.ops [
  ⟨some [true, true, false, false, true, true, false], .move (.s [false, false, false, true]), none⟩,
  ⟨some [false, false, true, false, true, true, false], .un .not (.s [true, true, false, false, true, true, false]), none⟩,
  ⟨some [true, false, true, false, true, true, false], .move (.s [false, false, true, false, true, true, false]), none⟩,
  ⟨some [false, true, true, false, true, true, false], .move (.s [true, true, true]), some ([true, false, true, false, true, true, false], false)⟩,
  ⟨some [true, true, true, false, true, true, false], .move (.s [false, true, false, false]), some ([true, false, true, false, true, true, false], false)⟩,
  ⟨some [false, false, false, true, true, true, false], .bin .lss (.s [false, true, true, false, true, true, false]) (.s [true, true, true, false, true, true, false]), some ([true, false, true, false, true, true, false], false)⟩,
  ⟨some [true, false, false, true, true, true, false], .pick (.s [true, false, true, false, true, true, false]) (.c (.bool true)) (.s [false, false, false, true, true, true, false]), none⟩,
  ⟨some [false, true, false, true, true, true, false], .move (.s [true, false, false, true, true, true, false]), none⟩,
  ⟨some [true, true, false, true, true, true, false], .move (.s [true, true, true]), some ([false, true, false, true, true, true, false], false)⟩,
  ⟨some [false, false, true, true, true, true, false], .move (.s [false, true, false, false]), some ([false, true, false, true, true, true, false], false)⟩,
  ⟨some [true, false, true, true, true, true, false], .bin .eql (.s [true, true, false, true, true, true, false]) (.s [false, false, true, true, true, true, false]), some ([false, true, false, true, true, true, false], false)⟩,
  ⟨some [false, true, true, true, true, true, false], .move (.s [true, false, true, true, true, true, false]), some ([false, true, false, true, true, true, false], false)⟩,
  ⟨some [true, true, true, true, true, true, false], .move (.s [false, false, false, false]), some ([false, true, true, true, true, true, false], true)⟩,
  ⟨some [false, false, false, false, false, false, true], .move (.s [true, true, false, false]), some ([false, true, true, true, true, true, false], true)⟩,
  ⟨some [true, false, false, false, false, false, true], .bin .leq (.s [true, true, true, true, true, true, false]) (.s [false, false, false, false, false, false, true]), some ([false, true, true, true, true, true, false], true)⟩,
  ⟨some [false, true, false, false, false, false, true], .pick (.s [false, true, true, true, true, true, false]) (.s [true, false, false, false, false, false, true]) (.c (.bool false)), some ([false, true, false, true, true, true, false], false)⟩,
  ⟨some [true, true, false, false, false, false, true], .pick (.s [false, true, false, true, true, true, false]) (.c (.bool true)) (.s [false, true, false, false, false, false, true]), none⟩,
  ⟨some [false, false, true, false, false, false, true], .move (.s [true, true, false, false, false, false, true]), none⟩,
  ⟨some [true, false, true, false, false, false, true], .call false (.c (.func 20 [])) [], some ([false, false, true, false, false, false, true], true)⟩,
  ⟨some [false, true, true, false, false, false, true], .pick (.s [false, false, true, false, false, false, true]) (.s [true, false, true, false, false, false, true]) (.c (.bool false)), none⟩,
  ⟨some [true, true], .move (.s [false, true, true, false, false, false, true]), none⟩])
def c5 : CFunc := { params := [[], [false], [true]], results := [.slot [true, true]], shared := false, body := (.seq c5_o0
 (.seq c5_o1
 (.seq c5_o2
 (.seq c5_o3
 (.seq c5_o4
 (.seq c5_o5
 (.seq c5_o6
 (.seq c5_o7
 (.seq c5_o8
 (.seq c5_o9
 (.seq (.seq c5_o10
 (.cond (.s [true, true, false, false, true, true]) (.seq c5_o11
 .ret) .skip))
 (.seq c5_o12
 (.seq (.seq c5_o13
 (.cond (.s [true, true, true, true, true, true]) (.seq c5_o14
 .ret) .skip))
 (.seq c5_o15
 (.seq c5_o16
 (.seq (.seq c5_o17
 (.cond (.s [false, true, false, false, true, true, false]) (.seq c5_o18
 .ret) .skip))
 (.seq c5_o19
 .ret))))))))))))))))) }
-- numnah/numnahlaw05.SampleSingles
-- c6_o0: 0=[] 1=[f] 2=[t]
-- c6_o1: 0=[] 1=[f] 5=[f, t]
-- c6_o2: 0=[] 1=[f] 7=[f, f, f] 8=[t, f, f]
-- c6_o3: 0=[] 1=[f] 7=[f, f, f] 8=[t, f, f] 9=[f, t, f] 10=[t, t, f]
-- c6_o4: 0=[] 1=[f] 7=[f, f, f] 8=[t, f, f] 9=[f, t, f] 10=[t, t, f] 11=[f, f, t] 12=[t, f, t]
-- c6_o5: 9=[f, t, f] 10=[t, t, f] 11=[f, f, t] 12=[t, f, t]
-- c6_o6: 0=[] 1=[f] 7=[f, f, f] 8=[t, f, f] 9=[f, t, f] 10=[t, t, f] 11=[f, f, t] 12=[t, f, t]
-- c6_o7: 0=[] 1=[f] 7=[f, f, f] 8=[t, f, f] 9=[f, t, f] 10=[t, t, f] 11=[f, f, t] 12=[t, f, t] 13=[f, t, t]
-- c6_o8: 
-- c6_o9: 0=[] 1=[f] 7=[f, f, f] 8=[t, f, f] 11=[f, f, t] 12=[t, f, t] 13=[f, t, t]
-- c6_o10: 11=[f, f, t] 12=[t, f, t]
-- c6_o11: 0=[] 1=[f] 7=[f, f, f] 8=[t, f, f] 11=[f, f, t] 12=[t, f, t] 13=[f, t, t]
def c6_o0 : CCode := .trim [[], [false], [true]] (.ops [
  ⟨some [false, true], .box none (.s [true]), none⟩,
  ⟨some [true, true], .move (.c (.bool false)), none⟩])
def c6_o1 : CCode := .trim [[], [false], [false, true]] (.draw 0 [
  ⟨some [true, true, true], .idxArr 2 1 (.s [false, true]) (.c (.int .i64 0)), none⟩,
  ⟨some [false, false, false, false], .load none (.s [true, true, true]), none⟩,
  ⟨some [true, false, false, false], .idxArr 2 1 (.s [false, true]) (.c (.int .i64 1)), none⟩,
  ⟨some [false, true, false, false], .load none (.s [true, false, false, false]), none⟩,
  ⟨some [false, false, false], .move (.s [false, false, false, false]), none⟩,
  ⟨some [true, false, false], .move (.s [false, true, false, false]), none⟩]
  [(1, 3)] [[], [0], [], [2], [0, 1], [0, 1, 2, 3, 4]])
def c6_o2 : CCode := .trim [[], [false], [false, false, false], [true, false, false]] (.ops [
  ⟨some [false, false, true, false], .move (.s []), none⟩,
  ⟨some [true, false, true, false], .move (.s [false]), none⟩,
  ⟨some [false, true, true, false], .call false (.c (.func 28 [])) [(.s [false, false, true, false]), (.s [true, false, true, false])], none⟩,
  ⟨some [true, true, false, false], .move (.s [false, true, true, false]), none⟩,
  ⟨some [true, true, true, false], .extract 0 (.s [true, true, false, false]), none⟩,
  ⟨some [false, false, false, true], .extract 1 (.s [true, true, false, false]), none⟩,
  ⟨some [false, true, false], .move (.s [true, true, true, false]), none⟩,
  ⟨some [true, true, false], .move (.s [false, false, false, true]), none⟩])
def c6_o3 : CCode := .trim [[], [false], [false, false, false], [true, false, false], [false, true, false], [true, true, false]] (.ops [
  ⟨some [false, true, false, true], .move (.s []), none⟩,
  ⟨some [true, true, false, true], .move (.s [false]), none⟩,
  ⟨some [false, false, true, true], .move (.s [false, false, false]), none⟩,
  ⟨some [true, false, true, true], .move (.s [true, false, false]), none⟩,
  ⟨some [false, true, true, true], .call false (.c (.func 23 [])) [(.s [false, true, false, true]), (.s [true, true, false, true]), (.s [false, false, true, true]), (.s [true, false, true, true])], none⟩,
  ⟨some [true, false, false, true], .move (.s [false, true, true, true]), none⟩,
  ⟨some [true, true, true, true], .extract 0 (.s [true, false, false, true]), none⟩,
  ⟨some [false, false, false, false, false], .extract 1 (.s [true, false, false, true]), none⟩,
  ⟨some [false, false, true], .alloc none [.int .i64 0, .int .i64 0], none⟩,
  ⟨none, .store 2 (.s [false, false, true]) (.s [true, true, true, true]), none⟩,
  ⟨some [true, false, true], .move (.s [false, false, false, false, false]), none⟩])
def c6_o4 : CCode := .trim [[], [false], [false, false, false], [true, false, false], [false, true, false], [true, true, false], [false, false, true], [true, false, true]] (.ops [
  ⟨some [true, false, false, false, false], .move (.s []), none⟩,
  ⟨some [false, true, false, false, false], .move (.s [false]), none⟩,
  ⟨some [true, true, false, false, false], .call false (.c (.func 18 [])) [(.s [true, false, false, false, false]), (.s [false, true, false, false, false])], none⟩,
  ⟨some [false, false, true, false, false], .un .not (.s [true, true, false, false, false]), none⟩])
def c6_o5 : CCode := .trim [[false, true, false], [true, true, false], [false, false, true], [true, false, true]] (.ops [
  ⟨some [true, false, true, false, false], .move (.s [false, true, false]), none⟩,
  ⟨some [false, true, true, false, false], .bin .eql (.s [true, false, true, false, false]) (.c (.int .i64 0)), none⟩,
  ⟨some [true, true, true, false, false], .move (.s [false, true, true, false, false]), none⟩,
  ⟨some [false, false, false, true, false], .move (.s [true, true, false]), some ([true, true, true, false, false], true)⟩,
  ⟨some [true, false, false, true, false], .bin .eql (.s [false, false, false, true, false]) (.c (.int .i64 2)), some ([true, true, true, false, false], true)⟩,
  ⟨some [false, true, false, true, false], .pick (.s [true, true, true, false, false]) (.s [true, false, false, true, false]) (.c (.bool false)), none⟩,
  ⟨some [true, true, false, true, false], .move (.s [false, true, false, true, false]), none⟩,
  ⟨some [false, false, true, true, false], .load (some 2) (.s [false, false, true]), some ([true, true, false, true, false], true)⟩,
  ⟨some [true, false, true, true, false], .build [.int .i64 0, .int .i64 0] [], some ([true, true, false, true, false], true)⟩,
  ⟨some [false, true, true, true, false], .eqa [.i .i64, .i .i64] false (.s [false, false, true, true, false]) (.s [true, false, true, true, false]), some ([true, true, false, true, false], true)⟩,
  ⟨some [true, true, true, true, false], .pick (.s [true, true, false, true, false]) (.s [false, true, true, true, false]) (.c (.bool false)), none⟩,
  ⟨some [false, false, false, false, true], .move (.s [true, true, true, true, false]), none⟩,
  ⟨some [true, false, false, false, true], .move (.s [true, false, true]), some ([false, false, false, false, true], true)⟩,
  ⟨some [false, true, false, false, true], .bin .eql (.s [true, false, false, false, true]) (.c (.int .i64 2)), some ([false, false, false, false, true], true)⟩,
  ⟨some [true, true, false, false, true], .pick (.s [false, false, false, false, true]) (.s [false, true, false, false, true]) (.c (.bool false)), none⟩,
  ⟨some [false, false, true, false, true], .move (.s [true, true, false, false, true]), none⟩,
  ⟨some [true, false, true, false, true], .call false (.c (.func 20 [])) [], some ([false, false, true, false, true], true)⟩,
  ⟨some [false, true, true, false, true], .pick (.s [false, false, true, false, true]) (.s [true, false, true, false, true]) (.c (.bool false)), none⟩,
  ⟨some [true, true], .move (.s [false, true, true, false, true]), none⟩])
def c6_o6 : CCode := .trim [[], [false], [false, false, false], [true, false, false], [false, true, false], [true, true, false], [false, false, true], [true, false, true]] (.ops [
  ⟨some [true, true, true, false, true], .move (.s []), none⟩,
  ⟨some [false, false, false, true, true], .move (.s [false]), none⟩,
  ⟨some [true, false, false, true, true], .call false (.c (.func 29 [])) [(.s [true, true, true, false, true]), (.s [false, false, false, true, true])], none⟩,
  ⟨some [false, true, true], .move (.s [true, false, false, true, true]), none⟩])
def c6_o7 : CCode := .trim [[], [false], [false, false, false], [true, false, false], [false, true, false], [true, true, false], [false, false, true], [true, false, true], [false, true, true]] (.ops [
  ⟨some [false, true, false, true, true], .move (.s [false, true, false]), none⟩,
  ⟨some [true, true, false, true, true], .move (.s [false, true, true]), none⟩,
  ⟨some [false, false, true, true, true], .bin .neq (.s [false, true, false, true, true]) (.s [true, true, false, true, true]), none⟩,
  ⟨some [true, false, true, true, true], .move (.s [false, false, true, true, true]), none⟩,
  ⟨some [false, true, true, true, true], .move (.s [true, true, false]), some ([true, false, true, true, true], false)⟩,
  ⟨some [true, true, true, true, true], .bin .neq (.s [false, true, true, true, true]) (.c (.int .i64 0)), some ([true, false, true, true, true], false)⟩,
  ⟨some [false, false, false, false, false, false], .pick (.s [true, false, true, true, true]) (.c (.bool true)) (.s [true, true, true, true, true]), none⟩])
def c6_o8 : CCode := .trim [] (.ops [
  ⟨some [true, true], .move (.c (.bool false)), none⟩])
def c6_o9 : CCode := .trim [[], [false], [false, false, false], [true, false, false], [false, false, true], [true, false, true], [false, true, true]] (.ops [
  ⟨some [true, false, false, false, false, false], .move (.s []), none⟩,
  ⟨some [false, true, false, false, false, false], .move (.s [false, false, false]), none⟩,
  ⟨some [true, true, false, false, false, false], .move (.s [true, false, false]), none⟩,
  ⟨some [false, false, true, false, false, false], .call false (.c (.func 30 [])) [(.s [true, false, false, false, false, false]), (.s [false, true, false, false, false, false]), (.s [true, true, false, false, false, false])], none⟩,
  ⟨some [true, false, true, false, false, false], .un .not (.s [false, false, true, false, false, false]), none⟩])
def c6_o10 : CCode := .trim [[false, false, true], [true, false, true]] (.ops [
  ⟨some [false, true, true, false, false, false], .load (some 2) (.s [false, false, true]), none⟩,
  ⟨some [true, true, true, false, false, false], .build [.int .i64 0, .int .i64 0] [], none⟩,
  ⟨some [false, false, false, true, false, false], .eqa [.i .i64, .i .i64] false (.s [false, true, true, false, false, false]) (.s [true, true, true, false, false, false]), none⟩,
  ⟨some [true, false, false, true, false, false], .move (.s [false, false, false, true, false, false]), none⟩,
  ⟨some [false, true, false, true, false, false], .move (.s [true, false, true]), some ([true, false, false, true, false, false], true)⟩,
  ⟨some [true, true, false, true, false, false], .bin .eql (.s [false, true, false, true, false, false]) (.c (.int .i64 2)), some ([true, false, false, true, false, false], true)⟩,
  ⟨some [false, false, true, true, false, false], .pick (.s [true, false, false, true, false, false]) (.s [true, true, false, true, false, false]) (.c (.bool false)), none⟩,
  ⟨some [true, false, true, true, false, false], .move (.s [false, false, true, true, false, false]), none⟩,
  ⟨some [false, true, true, true, false, false], .call false (.c (.func 20 [])) [], some ([true, false, true, true, false, false], true)⟩,
  ⟨some [true, true, true, true, false, false], .pick (.s [true, false, true, true, false, false]) (.s [false, true, true, true, false, false]) (.c (.bool false)), none⟩,
  ⟨some [true, true], .move (.s [true, true, true, true, false, false]), none⟩])
def c6_o11 : CCode := .trim [[], [false], [false, false, false], [true, false, false], [false, false, true], [true, false, true], [false, true, true]] (.draw 0 [
  ⟨some [false, false, false, false, true, false], .load (some 2) (.s [false, false, true]), none⟩,
  ⟨some [true, false, false, false, true, false], .move (.s []), none⟩,
  ⟨some [false, true, false, false, true, false], .move (.s [false]), none⟩,
  ⟨some [true, true, false, false, true, false], .move (.s [false, false, false]), none⟩,
  ⟨some [false, false, true, false, true, false], .move (.s [true, false, false]), none⟩,
  ⟨some [true, false, true, false, true, false], .call false (.c (.func 31 [])) [(.s [true, false, false, false, true, false]), (.s [false, true, false, false, true, false]), (.s [true, true, false, false, true, false]), (.s [false, false, true, false, true, false])], none⟩,
  ⟨some [false, true, true, false, true, false], .move (.s [false, true, true]), none⟩,
  ⟨some [true, true, true, false, true, false], .call false (.c (.func 25 [])) [(.s [true, false, true, false, true, false]), (.s [false, true, true, false, true, false])], none⟩,
  ⟨some [false, false, false, true, true, false], .eqa [.i .i64, .i .i64] false (.s [false, false, false, false, true, false]) (.s [true, true, true, false, true, false]), none⟩,
  ⟨some [true, false, false, true, true, false], .move (.s [false, false, false, true, true, false]), none⟩,
  ⟨some [false, true, false, true, true, false], .move (.s [true, false, true]), some ([true, false, false, true, true, false], true)⟩,
  ⟨some [true, true, false, true, true, false], .bin .eql (.s [false, true, false, true, true, false]) (.c (.int .i64 0)), some ([true, false, false, true, true, false], true)⟩,
  ⟨some [false, false, true, true, true, false], .pick (.s [true, false, false, true, true, false]) (.s [true, true, false, true, true, false]) (.c (.bool false)), none⟩,
  ⟨some [true, false, true, true, true, false], .move (.s [false, false, true, true, true, false]), none⟩,
  ⟨some [false, true, true, true, true, false], .call false (.c (.func 20 [])) [], some ([true, false, true, true, true, false], true)⟩,
  ⟨some [true, true, true, true, true, false], .pick (.s [true, false, true, true, true, false]) (.s [false, true, true, true, true, false]) (.c (.bool false)), none⟩,
  ⟨some [true, true], .move (.s [true, true, true, true, true, false]), none⟩]
  [(0, 5), (0, 7)] [[], [], [], [], [], [1, 2, 3, 4], [], [1, 2, 3, 4, 5, 6], [0, 1, 2, 3, 4, 5, 6, 7], [0, 1, 2, 3, 4, 5, 6, 7, 8], [0, 1, 2, 3, 4, 5, 6, 7, 8, 9], [0, 1, 2, 3, 4, 5, 6, 7, 8, 9, 10], [0, 1, 2, 3, 4, 5, 6, 7, 8, 9, 10, 11], [0, 1, 2, 3, 4, 5, 6, 7, 8, 9, 10, 11, 12], [0, 1, 2, 3, 4, 5, 6, 7, 8, 9, 10, 11, 12, 13], [0, 1, 2, 3, 4, 5, 6, 7, 8, 9, 10, 11, 12, 13, 14], [0, 1, 2, 3, 4, 5, 6, 7, 8, 9, 10, 11, 12, 13, 14, 15]])
def c6 : CFunc := { params := [[], [false], [true]], results := [.slot [true, true]], shared := false, body := (.seq c6_o0
 (.seq c6_o1
 (.seq c6_o2
 (.seq c6_o3
 (.seq (.seq c6_o4
 (.cond (.s [false, false, true, false, false]) (.seq c6_o5
 .ret) .skip))
 (.seq c6_o6
 (.seq (.seq c6_o7
 (.cond (.s [false, false, false, false, false, false]) (.seq c6_o8
 .ret) .skip))
 (.seq (.seq c6_o9
 (.cond (.s [true, false, true, false, false, false]) (.seq c6_o10
 .ret) .skip))
 (.seq c6_o11
 .ret))))))))) }
-- numnah/numnahlaw05.SampleCurtailed
-- c7_o0: 0=[] 1=[f]
-- c7_o1: 1=[f] 2=[t]
-- c7_o2: 1=[f] 5=[f, t] 6=[t, t] 7=[f, f, f]
-- c7_o3: 1=[f] 5=[f, t] 6=[t, t] 7=[f, f, f]
-- c7_o4: 1=[f] 5=[f, t] 6=[t, t] 7=[f, f, f] 8=[t, f, f] 9=[f, t, f]
-- c7_o5: 
-- c7_o6: 1=[f] 5=[f, t] 6=[t, t] 7=[f, f, f] 8=[t, f, f]
-- c7_o7: 1=[f] 5=[f, t] 6=[t, t] 7=[f, f, f] 8=[t, f, f] 10=[t, t, f]
-- c7_o8: 1=[f] 5=[f, t] 6=[t, t] 7=[f, f, f] 8=[t, f, f] 10=[t, t, f] 11=[f, f, t]
-- c7_o9: 1=[f] 5=[f, t] 6=[t, t] 7=[f, f, f] 8=[t, f, f] 10=[t, t, f] 11=[f, f, t]
-- c7_o10: 1=[f] 5=[f, t] 6=[t, t] 7=[f, f, f] 8=[t, f, f] 10=[t, t, f] 11=[f, f, t] 12=[t, f, t] 13=[f, t, t]
-- c7_o11: 1=[f] 5=[f, t] 6=[t, t] 7=[f, f, f] 8=[t, f, f] 10=[t, t, f] 11=[f, f, t]
-- c7_o12: 1=[f] 5=[f, t] 6=[t, t] 7=[f, f, f] 8=[t, f, f] 10=[t, t, f] 11=[f, f, t] 12=[t, f, t]
-- c7_o13: 1=[f] 5=[f, t] 6=[t, t] 7=[f, f, f] 8=[t, f, f] 10=[t, t, f] 11=[f, f, t] 12=[t, f, t] 13=[f, t, t]
-- c7_o14: 1=[f] 5=[f, t] 6=[t, t] 7=[f, f, f] 8=[t, f, f] 10=[t, t, f] 11=[f, f, t] 13=[f, t, t]
-- c7_o15: 1=[f] 5=[f, t] 6=[t, t] 7=[f, f, f] 8=[t, f, f] 10=[t, t, f] 11=[f, f, t]
-- c7_l0: live slots [1, 5, 6, 7, 8, 10, 11]
-- c7_o16: 1=[f] 5=[f, t] 6=[t, t] 7=[f, f, f] 8=[t, f, f] 10=[t, t, f]
-- c7_o17: 1=[f] 5=[f, t] 6=[t, t] 8=[t, f, f] 10=[t, t, f] 14=[t, t, t] 15=[f, f, f, f]
-- c7_o18: 1=[f] 5=[f, t] 6=[t, t] 10=[t, t, f] 14=[t, t, t] 15=[f, f, f, f] 16=[t, f, f, f] 17=[f, t, f, f] 18=[t, t, f, f]
-- c7_o19: 6=[t, t] 14=[t, t, t] 15=[f, f, f, f] 16=[t, f, f, f] 17=[f, t, f, f] 18=[t, t, f, f] 19=[f, f, t, f] 20=[t, f, t, f] 21=[f, t, t, f]
def c7_o0 : CCode := .trim [[], [false]] (.ops [
  ⟨some [true], .box none (.s []), none⟩,
  ⟨some [true, false], .move (.c (.bool false)), none⟩])
def c7_o1 : CCode := .trim [[false], [true]] (.ops [
  ⟨some [false, false, false, true], .load (some 3) (.s [true]), none⟩,
  ⟨some [true, false, false, true], .call false (.c (.func 22 [])) [(.s [false, false, false, true])], none⟩,
  ⟨some [true, true, true, false], .move (.s [true, false, false, true]), none⟩,
  ⟨some [false, true, false, true], .extract 0 (.s [true, true, true, false]), none⟩,
  ⟨some [true, true, false, true], .extract 1 (.s [true, true, true, false]), none⟩,
  ⟨some [false, false, true, true], .extract 2 (.s [true, true, true, false]), none⟩,
  ⟨some [false, true], .move (.s [false, true, false, true]), none⟩,
  ⟨some [true, true], .move (.s [true, true, false, true]), none⟩,
  ⟨some [false, false, false], .move (.s [false, false, true, true]), none⟩])
def c7_o2 : CCode := .trim [[false], [false, true], [true, true], [false, false, false]] (.ops [
  ⟨some [true, false, true, true], .move (.s [false]), none⟩,
  ⟨some [false, true, true, true], .move (.s [false, true]), none⟩,
  ⟨some [true, true, true, true], .bin .add (.s [false, true, true, true]) (.c (.int .i64 1)), none⟩,
  ⟨some [false, false, false, false, false], .call false (.c (.func 24 [])) [(.s [true, false, true, true]), (.s [true, true, true, true])], none⟩,
  ⟨some [false], .move (.s [false, false, false, false, false]), none⟩])
def c7_o3 : CCode := .trim [[false], [false, true], [true, true], [false, false, false]] (.ops [
  ⟨some [false, true, false, false, false], .move (.s [false, true]), none⟩,
  ⟨some [true, true, false, false, false], .move (.s [true, true]), none⟩,
  ⟨some [false, false, true, false, false], .move (.s [false, false, false]), none⟩,
  ⟨some [true, false, true, false, false], .call false (.c (.func 32 [])) [(.s [false, true, false, false, false]), (.s [true, true, false, false, false]), (.s [false, false, true, false, false])], none⟩,
  ⟨some [true, false, false, false, false], .move (.s [true, false, true, false, false]), none⟩,
  ⟨some [false, true, true, false, false], .extract 0 (.s [true, false, false, false, false]), none⟩,
  ⟨some [true, true, true, false, false], .extract 1 (.s [true, false, false, false, false]), none⟩,
  ⟨some [true, false, false], .alloc none [.nils, .nils], none⟩,
  ⟨none, .store 2 (.s [true, false, false]) (.s [false, true, true, false, false]), none⟩,
  ⟨some [false, true, false], .move (.s [true, true, true, false, false]), none⟩])
def c7_o4 : CCode := .trim [[false], [false, true], [true, true], [false, false, false], [true, false, false], [false, true, false]] (.ops [
  ⟨some [false, false, false, true, false], .move (.s [false, true, false]), none⟩,
  ⟨some [true, false, false, true, false], .bin .neq (.s [false, false, false, true, false]) (.c (.int .i64 0)), none⟩,
  ⟨some [false, true, false, true, false], .move (.s [true, false, false, true, false]), none⟩,
  ⟨some [true, true, false, true, false], .move (.s [false, true]), some ([false, true, false, true, false], false)⟩,
  ⟨some [false, false, true, true, false], .load (some 2) (.s [true, false, false]), some ([false, true, false, true, false], false)⟩,
  ⟨some [true, false, true, true, false], .call false (.c (.func 33 [])) [(.s [true, true, false, true, false]), (.s [false, false, true, true, false])], some ([false, true, false, true, false], false)⟩,
  ⟨some [false, true, true, true, false], .bin .neq (.s [true, false, true, true, false]) (.c (.int .i64 0)), some ([false, true, false, true, false], false)⟩,
  ⟨some [true, true, true, true, false], .pick (.s [false, true, false, true, false]) (.c (.bool true)) (.s [false, true, true, true, false]), none⟩,
  ⟨some [false, false, false, false, true], .move (.s [true, true, true, true, false]), none⟩,
  ⟨some [true, false, false, false, true], .fieldAddr 0 (.s [true, false, false]), some ([false, false, false, false, true], false)⟩,
  ⟨some [false, true, false, false, true], .load none (.s [true, false, false, false, true]), some ([false, false, false, false, true], false)⟩,
  ⟨some [true, true, false, false, true], .len 1 (.s [false, true, false, false, true]), some ([false, false, false, false, true], false)⟩,
  ⟨some [false, false, true, false, true], .move (.s [true, true]), some ([false, false, false, false, true], false)⟩,
  ⟨some [true, false, true, false, true], .bin .neq (.s [true, true, false, false, true]) (.s [false, false, true, false, true]), some ([false, false, false, false, true], false)⟩,
  ⟨some [false, true, true, false, true], .pick (.s [false, false, false, false, true]) (.c (.bool true)) (.s [true, false, true, false, true]), none⟩])
def c7_o5 : CCode := .trim [] (.ops [
  ⟨some [true, false], .move (.c (.bool false)), none⟩])
def c7_o6 : CCode := .trim [[false], [false, true], [true, true], [false, false, false], [true, false, false]] (.ops [
  ⟨some [true, true, false], .alloc none [.nils, .nils], none⟩])
def c7_o7 : CCode := .trim [[false], [false, true], [true, true], [false, false, false], [true, false, false], [true, true, false]] (.ops [
  ⟨some [false, false, true], .move (.c (.int .i64 1)), none⟩])
def c7_o8 : CCode := .trim [[false], [false, true], [true, true], [false, false, false], [true, false, false], [true, true, false], [false, false, true]] (.ops [
  ⟨some [true, true, true, false, true], .move (.s [false, false, true]), none⟩,
  ⟨some [false, false, false, true, true], .move (.s [true, true]), none⟩,
  ⟨some [true, false, false, true, true], .bin .leq (.s [true, true, true, false, true]) (.s [false, false, false, true, true]), none⟩])
def c7_o9 : CCode := .trim [[false], [false, true], [true, true], [false, false, false], [true, false, false], [true, true, false], [false, false, true]] (.ops [
  ⟨some [false, false, true, true, true], .move (.s [true, true]), none⟩,
  ⟨some [true, false, true, true, true], .bin .add (.s [false, false, true, true, true]) (.c (.int .i64 1)), none⟩,
  ⟨some [true, false, true], .move (.c (.int .i64 (-1))), none⟩,
  ⟨some [false, true, true], .move (.s [true, false, true, true, true]), none⟩])
def c7_o10 : CCode := .trim [[false], [false, true], [true, true], [false, false, false], [true, false, false], [true, true, false], [false, false, true], [true, false, true], [false, true, true]] (.ops [
  ⟨some [false, true, true, true, true], .move (.s [false, false, true]), none⟩,
  ⟨some [true, true, true, true, true], .move (.s [true, true]), none⟩,
  ⟨some [false, false, false, false, false, false], .bin .eql (.s [false, true, true, true, true]) (.s [true, true, true, true, true]), none⟩])
def c7_o11 : CCode := .trim [[false], [false, true], [true, true], [false, false, false], [true, false, false], [true, true, false], [false, false, true]] (.ops [
  ⟨some [true, false, false, false, false, false], .move (.s [false, false, false]), none⟩,
  ⟨some [true, false, true], .move (.s [true, false, false, false, false, false]), none⟩])
def c7_o12 : CCode := .trim [[false], [false, true], [true, true], [false, false, false], [true, false, false], [true, true, false], [false, false, true], [true, false, true]] (.ops [
  ⟨some [false, true, false, false, false, false], .move (.s [false, false, false]), none⟩,
  ⟨some [true, true, false, false, false, false], .bin .add (.s [false, true, false, false, false, false]) (.c (.int .i64 1)), none⟩,
  ⟨some [false, true, true], .move (.s [true, true, false, false, false, false]), none⟩])
def c7_o13 : CCode := .trim [[false], [false, true], [true, true], [false, false, false], [true, false, false], [true, true, false], [false, false, true], [true, false, true], [false, true, true]] (.ops [
  ⟨some [false, false, true, false, false, false], .fieldAddr 0 (.s [true, true, false]), none⟩,
  ⟨some [true, false, true, false, false, false], .load none (.s [false, false, true, false, false, false]), none⟩,
  ⟨some [false, true, true, false, false, false], .move (.s [true, false, true]), none⟩,
  ⟨some [true, true, true, false, false, false], .buildSlice none 1 1 [.int .i64 0] [(0, 1, (.s [false, true, true, false, false, false]))], none⟩,
  ⟨some [false, false, false, true, false, false], .append none 1 8 (.s [true, false, true, false, false, false]) (.s [true, true, true, false, false, false]), none⟩,
  ⟨some [true, false, false, true, false, false], .fieldAddr 0 (.s [true, true, false]), none⟩,
  ⟨none, .store 1 (.s [true, false, false, true, false, false]) (.s [false, false, false, true, false, false]), none⟩])
def c7_o14 : CCode := .trim [[false], [false, true], [true, true], [false, false, false], [true, false, false], [true, true, false], [false, false, true], [false, true, true]] (.ops [
  ⟨some [false, true, false, true, false, false], .fieldAddr 1 (.s [true, true, false]), none⟩,
  ⟨some [true, true, false, true, false, false], .load none (.s [false, true, false, true, false, false]), none⟩,
  ⟨some [false, false, true, true, false, false], .move (.s [false, true, true]), none⟩,
  ⟨some [true, false, true, true, false, false], .buildSlice none 1 1 [.int .i64 0] [(0, 1, (.s [false, false, true, true, false, false]))], none⟩,
  ⟨some [false, true, true, true, false, false], .append none 1 8 (.s [true, true, false, true, false, false]) (.s [true, false, true, true, false, false]), none⟩,
  ⟨some [true, true, true, true, false, false], .fieldAddr 1 (.s [true, true, false]), none⟩,
  ⟨none, .store 1 (.s [true, true, true, true, false, false]) (.s [false, true, true, true, false, false]), none⟩])
def c7_o15 : CCode := .trim [[false], [false, true], [true, true], [false, false, false], [true, false, false], [true, true, false], [false, false, true]] (.ops [
  ⟨some [false, true, false, true, true], .move (.s [false, false, true]), none⟩,
  ⟨some [true, true, false, true, true], .bin .add (.s [false, true, false, true, true]) (.c (.int .i64 1)), none⟩,
  ⟨some [false, false, true], .move (.s [true, true, false, true, true]), none⟩])
def c7_b0 : CCode := (.seq (.seq c7_o8
 (.cond (.s [true, false, false, true, true]) .skip (.exit 0)))
 (.seq (.block 1 (.seq c7_o9
 (.seq (.seq c7_o10
 (.cond (.s [false, false, false, false, false, false]) (.seq c7_o11
 c7_o12) .skip))
 (.seq c7_o13
 c7_o14))))
 c7_o15))
def c7_l0 : CCode := .loop [[false], [false, true], [true, true], [false, false, false], [true, false, false], [true, true, false], [false, false, true]] c7_b0
def c7_o16 : CCode := .trim [[false], [false, true], [true, true], [false, false, false], [true, false, false], [true, true, false]] (.ops [
  ⟨some [true, false, false, false, true, false], .move (.s [false, true]), none⟩,
  ⟨some [false, true, false, false, true, false], .move (.s [false]), none⟩,
  ⟨some [true, true, false, false, true, false], .move (.s [true, true]), none⟩,
  ⟨some [false, false, true, false, true, false], .move (.s [false, false, false]), none⟩,
  ⟨some [true, false, true, false, true, false], .call false (.c (.func 23 [])) [(.s [true, false, false, false, true, false]), (.s [false, true, false, false, true, false]), (.s [true, true, false, false, true, false]), (.s [false, false, true, false, true, false])], none⟩,
  ⟨some [false, false, false, false, true, false], .move (.s [true, false, true, false, true, false]), none⟩,
  ⟨some [false, true, true, false, true, false], .extract 0 (.s [false, false, false, false, true, false]), none⟩,
  ⟨some [true, true, true, false, true, false], .extract 1 (.s [false, false, false, false, true, false]), none⟩,
  ⟨some [true, true, true], .alloc none [.int .i64 0, .int .i64 0], none⟩,
  ⟨none, .store 2 (.s [true, true, true]) (.s [false, true, true, false, true, false]), none⟩,
  ⟨some [false, false, false, false], .move (.s [true, true, true, false, true, false]), none⟩])
def c7_o17 : CCode := .trim [[false], [false, true], [true, true], [true, false, false], [true, true, false], [true, true, true], [false, false, false, false]] (.ops [
  ⟨some [true, false, false, true, true, false], .move (.s [false, true]), none⟩,
  ⟨some [false, true, false, true, true, false], .move (.s [false]), none⟩,
  ⟨some [true, true, false, true, true, false], .load (some 2) (.s [true, false, false]), none⟩,
  ⟨some [false, false, true, true, true, false], .call false (.c (.func 34 [])) [(.s [true, false, false, true, true, false]), (.s [false, true, false, true, true, false]), (.s [true, true, false, true, true, false])], none⟩,
  ⟨some [false, false, false, true, true, false], .move (.s [false, false, true, true, true, false]), none⟩,
  ⟨some [true, false, true, true, true, false], .extract 0 (.s [false, false, false, true, true, false]), none⟩,
  ⟨some [false, true, true, true, true, false], .extract 1 (.s [false, false, false, true, true, false]), none⟩,
  ⟨some [true, true, true, true, true, false], .extract 2 (.s [false, false, false, true, true, false]), none⟩,
  ⟨some [true, false, false, false], .alloc none [.int .i64 0, .int .i64 0], none⟩,
  ⟨some [false, true, false, false], .alloc none [.int .i64 0, .int .i64 0], none⟩,
  ⟨none, .store 2 (.s [true, false, false, false]) (.s [true, false, true, true, true, false]), none⟩,
  ⟨none, .store 2 (.s [false, true, false, false]) (.s [false, true, true, true, true, false]), none⟩,
  ⟨some [true, true, false, false], .move (.s [true, true, true, true, true, false]), none⟩])
def c7_o18 : CCode := .trim [[false], [false, true], [true, true], [true, true, false], [true, true, true], [false, false, false, false], [true, false, false, false], [false, true, false, false], [true, true, false, false]] (.ops [
  ⟨some [true, false, false, false, false, true], .move (.s [false, true]), none⟩,
  ⟨some [false, true, false, false, false, true], .move (.s [false]), none⟩,
  ⟨some [true, true, false, false, false, true], .load (some 2) (.s [true, true, false]), none⟩,
  ⟨some [false, false, true, false, false, true], .call false (.c (.func 34 [])) [(.s [true, false, false, false, false, true]), (.s [false, true, false, false, false, true]), (.s [true, true, false, false, false, true])], none⟩,
  ⟨some [false, false, false, false, false, true], .move (.s [false, false, true, false, false, true]), none⟩,
  ⟨some [true, false, true, false, false, true], .extract 0 (.s [false, false, false, false, false, true]), none⟩,
  ⟨some [false, true, true, false, false, true], .extract 1 (.s [false, false, false, false, false, true]), none⟩,
  ⟨some [true, true, true, false, false, true], .extract 2 (.s [false, false, false, false, false, true]), none⟩,
  ⟨some [false, false, true, false], .alloc none [.int .i64 0, .int .i64 0], none⟩,
  ⟨some [true, false, true, false], .alloc none [.int .i64 0, .int .i64 0], none⟩,
  ⟨none, .store 2 (.s [false, false, true, false]) (.s [true, false, true, false, false, true]), none⟩,
  ⟨none, .store 2 (.s [true, false, true, false]) (.s [false, true, true, false, false, true]), none⟩,
  ⟨some [false, true, true, false], .move (.s [true, true, true, false, false, true]), none⟩])
def c7_o19 : CCode := .trim [[true, true], [true, true, true], [false, false, false, false], [true, false, false, false], [false, true, false, false], [true, true, false, false], [false, false, true, false], [true, false, true, false], [false, true, true, false]] (.ops [
  ⟨some [false, false, false, true, false, true], .move (.s [false, false, false, false]), none⟩,
  ⟨some [true, false, false, true, false, true], .bin .eql (.s [false, false, false, true, false, true]) (.c (.int .i64 0)), none⟩,
  ⟨some [false, true, false, true, false, true], .move (.s [true, false, false, true, false, true]), none⟩,
  ⟨some [true, true, false, true, false, true], .move (.s [true, true, false, false]), some ([false, true, false, true, false, true], true)⟩,
  ⟨some [false, false, true, true, false, true], .bin .eql (.s [true, true, false, true, false, true]) (.c (.int .i64 0)), some ([false, true, false, true, false, true], true)⟩,
  ⟨some [true, false, true, true, false, true], .pick (.s [false, true, false, true, false, true]) (.s [false, false, true, true, false, true]) (.c (.bool false)), none⟩,
  ⟨some [false, true, true, true, false, true], .move (.s [true, false, true, true, false, true]), none⟩,
  ⟨some [true, true, true, true, false, true], .move (.s [false, true, true, false]), some ([false, true, true, true, false, true], true)⟩,
  ⟨some [false, false, false, false, true, true], .bin .eql (.s [true, true, true, true, false, true]) (.c (.int .i64 0)), some ([false, true, true, true, false, true], true)⟩,
  ⟨some [true, false, false, false, true, true], .pick (.s [false, true, true, true, false, true]) (.s [false, false, false, false, true, true]) (.c (.bool false)), none⟩,
  ⟨some [false, true, false, false, true, true], .move (.s [true, false, false, false, true, true]), none⟩,
  ⟨some [true, true, false, false, true, true], .load (some 2) (.s [true, true, true]), some ([false, true, false, false, true, true], true)⟩,
  ⟨some [false, false, true, false, true, true], .load (some 2) (.s [true, false, false, false]), some ([false, true, false, false, true, true], true)⟩,
  ⟨some [true, false, true, false, true, true], .eqa [.i .i64, .i .i64] false (.s [true, true, false, false, true, true]) (.s [false, false, true, false, true, true]), some ([false, true, false, false, true, true], true)⟩,
  ⟨some [false, true, true, false, true, true], .pick (.s [false, true, false, false, true, true]) (.s [true, false, true, false, true, true]) (.c (.bool false)), none⟩,
  ⟨some [true, true, true, false, true, true], .move (.s [false, true, true, false, true, true]), none⟩,
  ⟨some [false, false, false, true, true, true], .load (some 2) (.s [true, true, true]), some ([true, true, true, false, true, true], true)⟩,
  ⟨some [true, false, false, true, true, true], .load (some 2) (.s [false, false, true, false]), some ([true, true, true, false, true, true], true)⟩,
  ⟨some [false, true, false, true, true, true], .eqa [.i .i64, .i .i64] false (.s [false, false, false, true, true, true]) (.s [true, false, false, true, true, true]), some ([true, true, true, false, true, true], true)⟩,
  ⟨some [true, true, false, true, true, true], .pick (.s [true, true, true, false, true, true]) (.s [false, true, false, true, true, true]) (.c (.bool false)), none⟩,
  ⟨some [false, false, true, true, true, true], .move (.s [true, true, false, true, true, true]), none⟩,
  ⟨some [true, false, true, true, true, true], .load (some 2) (.s [true, false, true, false]), some ([false, false, true, true, true, true], true)⟩,
  ⟨some [false, true, true, true, true, true], .move (.s [true, true]), some ([false, false, true, true, true, true], true)⟩,
  ⟨some [true, true, true, true, true, true], .build [.int .i64 0, .int .i64 0] [(0, 1, (.s [false, true, true, true, true, true])), (1, 1, (.c (.int .i64 1)))], some ([false, false, true, true, true, true], true)⟩,
  ⟨some [false, false, false, false, false, false, false], .eqa [.i .i64, .i .i64] false (.s [true, false, true, true, true, true]) (.s [true, true, true, true, true, true]), some ([false, false, true, true, true, true], true)⟩,
  ⟨some [true, false, false, false, false, false, false], .pick (.s [false, false, true, true, true, true]) (.s [false, false, false, false, false, false, false]) (.c (.bool false)), none⟩,
  ⟨some [false, true, false, false, false, false, false], .move (.s [true, false, false, false, false, false, false]), none⟩,
  ⟨some [true, true, false, false, false, false, false], .load (some 2) (.s [false, true, false, false]), some ([false, true, false, false, false, false, false], true)⟩,
  ⟨some [false, false, true, false, false, false, false], .call false (.c (.func 26 [])) [(.s [true, true, false, false, false, false, false])], some ([false, true, false, false, false, false, false], true)⟩,
  ⟨some [true, false, true, false, false, false, false], .pick (.s [false, true, false, false, false, false, false]) (.s [false, false, true, false, false, false, false]) (.c (.bool false)), none⟩,
  ⟨some [false, true, true, false, false, false, false], .move (.s [true, false, true, false, false, false, false]), none⟩,
  ⟨some [true, true, true, false, false, false, false], .load (some 2) (.s [true, false, true, false]), some ([false, true, true, false, false, false, false], true)⟩,
  ⟨some [false, false, false, true, false, false, false], .load (some 2) (.s [false, true, false, false]), some ([false, true, true, false, false, false, false], true)⟩,
  ⟨some [true, false, false, true, false, false, false], .call false (.c (.func 27 [])) [(.s [true, true, true, false, false, false, false]), (.s [false, false, false, true, false, false, false])], some ([false, true, true, false, false, false, false], true)⟩,
  ⟨some [false, true, false, true, false, false, false], .un .not (.s [true, false, false, true, false, false, false]), some ([false, true, true, false, false, false, false], true)⟩,
  ⟨some [true, true, false, true, false, false, false], .pick (.s [false, true, true, false, false, false, false]) (.s [false, true, false, true, false, false, false]) (.c (.bool false)), none⟩,
  ⟨some [false, false, true, true, false, false, false], .move (.s [true, true, false, true, false, false, false]), none⟩,
  ⟨some [true, false, true, true, false, false, false], .call false (.c (.func 20 [])) [], some ([false, false, true, true, false, false, false], true)⟩,
  ⟨some [false, true, true, true, false, false, false], .pick (.s [false, false, true, true, false, false, false]) (.s [true, false, true, true, false, false, false]) (.c (.bool false)), none⟩,
  ⟨some [true, false], .move (.s [false, true, true, true, false, false, false]), none⟩])
def c7 : CFunc := { params := [[], [false]], results := [.slot [true, false]], shared := false, body := (.seq c7_o0
 (.seq c7_o1
 (.seq c7_o2
 (.seq c7_o3
 (.seq (.seq c7_o4
 (.cond (.s [false, true, true, false, true]) (.seq c7_o5
 .ret) .skip))
 (.seq c7_o6
 (.seq (.seq c7_o7
 (.block 0 c7_l0))
 (.seq c7_o16
 (.seq c7_o17
 (.seq c7_o18
 (.seq c7_o19
 .ret))))))))))) }
-- numnah/numnahlaw05.SamplePascal
-- c8_o0: 0=[] 1=[f]
-- c8_o1: 0=[] 1=[f]
-- c8_o2: 0=[] 1=[f]
-- c8_o3: 0=[] 1=[f]
-- c8_o4: 0=[] 1=[f] 5=[f, t] 6=[t, t]
-- c8_o5: 0=[] 1=[f] 5=[f, t] 6=[t, t] 7=[f, f, f] 8=[t, f, f]
-- c8_o6: 0=[] 1=[f] 5=[f, t] 6=[t, t] 7=[f, f, f] 8=[t, f, f] 9=[f, t, f] 10=[t, t, f]
-- c8_o7: 5=[f, t] 6=[t, t] 7=[f, f, f] 8=[t, f, f] 9=[f, t, f] 10=[t, t, f] 11=[f, f, t] 12=[t, f, t]
def c8_o0 : CCode := .trim [[], [false]] (.ops [
  ⟨some [true, false], .move (.c (.bool false)), none⟩])
def c8_o1 : CCode := .trim [[], [false]] (.ops [
  ⟨some [false, true, true], .move (.s []), none⟩,
  ⟨some [true, true, true], .call false (.c (.func 24 [])) [(.s [false, true, true]), (.c (.int .i64 35))], none⟩,
  ⟨some [false, false, false, false], .bin .add (.c (.int .i64 2)) (.s [true, true, true]), none⟩,
  ⟨some [], .move (.s [false, false, false, false]), none⟩])
def c8_o2 : CCode := .trim [[], [false]] (.ops [
  ⟨some [true, false, false, false], .move (.s [false]), none⟩,
  ⟨some [false, true, false, false], .move (.s []), none⟩,
  ⟨some [true, true, false, false], .bin .sub (.s [false, true, false, false]) (.c (.int .i64 1)), none⟩,
  ⟨some [false, false, true, false], .call false (.c (.func 24 [])) [(.s [true, false, false, false]), (.s [true, true, false, false])], none⟩,
  ⟨some [true, false, true, false], .bin .add (.c (.int .i64 1)) (.s [false, false, true, false]), none⟩,
  ⟨some [false], .move (.s [true, false, true, false]), none⟩])
def c8_o3 : CCode := .trim [[], [false]] (.ops [
  ⟨some [true, true, true, false], .move (.s []), none⟩,
  ⟨some [false, false, false, true], .move (.s [false]), none⟩,
  ⟨some [true, false, false, true], .call false (.c (.func 28 [])) [(.s [true, true, true, false]), (.s [false, false, false, true])], none⟩,
  ⟨some [false, true, true, false], .move (.s [true, false, false, true]), none⟩,
  ⟨some [false, true, false, true], .extract 0 (.s [false, true, true, false]), none⟩,
  ⟨some [true, true, false, true], .extract 1 (.s [false, true, true, false]), none⟩,
  ⟨some [false, true], .move (.s [false, true, false, true]), none⟩,
  ⟨some [true, true], .move (.s [true, true, false, true]), none⟩])
def c8_o4 : CCode := .trim [[], [false], [false, true], [true, true]] (.ops [
  ⟨some [true, false, true, true], .move (.s []), none⟩,
  ⟨some [false, true, true, true], .bin .sub (.s [true, false, true, true]) (.c (.int .i64 1)), none⟩,
  ⟨some [true, true, true, true], .move (.s [false]), none⟩,
  ⟨some [false, false, false, false, false], .call false (.c (.func 28 [])) [(.s [false, true, true, true]), (.s [true, true, true, true])], none⟩,
  ⟨some [false, false, true, true], .move (.s [false, false, false, false, false]), none⟩,
  ⟨some [true, false, false, false, false], .extract 0 (.s [false, false, true, true]), none⟩,
  ⟨some [false, true, false, false, false], .extract 1 (.s [false, false, true, true]), none⟩,
  ⟨some [false, false, false], .move (.s [true, false, false, false, false]), none⟩,
  ⟨some [true, false, false], .move (.s [false, true, false, false, false]), none⟩])
def c8_o5 : CCode := .trim [[], [false], [false, true], [true, true], [false, false, false], [true, false, false]] (.ops [
  ⟨some [false, false, true, false, false], .move (.s []), none⟩,
  ⟨some [true, false, true, false, false], .bin .sub (.s [false, false, true, false, false]) (.c (.int .i64 1)), none⟩,
  ⟨some [false, true, true, false, false], .move (.s [false]), none⟩,
  ⟨some [true, true, true, false, false], .bin .sub (.s [false, true, true, false, false]) (.c (.int .i64 1)), none⟩,
  ⟨some [false, false, false, true, false], .call false (.c (.func 28 [])) [(.s [true, false, true, false, false]), (.s [true, true, true, false, false])], none⟩,
  ⟨some [true, true, false, false, false], .move (.s [false, false, false, true, false]), none⟩,
  ⟨some [true, false, false, true, false], .extract 0 (.s [true, true, false, false, false]), none⟩,
  ⟨some [false, true, false, true, false], .extract 1 (.s [true, true, false, false, false]), none⟩,
  ⟨some [false, true, false], .move (.s [true, false, false, true, false]), none⟩,
  ⟨some [true, true, false], .move (.s [false, true, false, true, false]), none⟩])
def c8_o6 : CCode := .trim [[], [false], [false, true], [true, true], [false, false, false], [true, false, false], [false, true, false], [true, true, false]] (.ops [
  ⟨some [false, false, true, true, false], .move (.s []), none⟩,
  ⟨some [true, false, true, true, false], .move (.s []), none⟩,
  ⟨some [false, true, true, true, false], .move (.s [false]), none⟩,
  ⟨some [true, true, true, true, false], .bin .sub (.s [true, false, true, true, false]) (.s [false, true, true, true, false]), none⟩,
  ⟨some [false, false, false, false, true], .call false (.c (.func 28 [])) [(.s [false, false, true, true, false]), (.s [true, true, true, true, false])], none⟩,
  ⟨some [true, true, false, true, false], .move (.s [false, false, false, false, true]), none⟩,
  ⟨some [true, false, false, false, true], .extract 0 (.s [true, true, false, true, false]), none⟩,
  ⟨some [false, true, false, false, true], .extract 1 (.s [true, true, false, true, false]), none⟩,
  ⟨some [false, false, true], .move (.s [true, false, false, false, true]), none⟩,
  ⟨some [true, false, true], .move (.s [false, true, false, false, true]), none⟩])
def c8_o7 : CCode := .trim [[false, true], [true, true], [false, false, false], [true, false, false], [false, true, false], [true, true, false], [false, false, true], [true, false, true]] (.ops [
  ⟨some [true, true, false, false, true], .move (.s [true, true]), none⟩,
  ⟨some [false, false, true, false, true], .bin .eql (.s [true, true, false, false, true]) (.c (.int .i64 0)), none⟩,
  ⟨some [true, false, true, false, true], .move (.s [false, false, true, false, true]), none⟩,
  ⟨some [false, true, true, false, true], .move (.s [true, false, false]), some ([true, false, true, false, true], true)⟩,
  ⟨some [true, true, true, false, true], .bin .eql (.s [false, true, true, false, true]) (.c (.int .i64 0)), some ([true, false, true, false, true], true)⟩,
  ⟨some [false, false, false, true, true], .pick (.s [true, false, true, false, true]) (.s [true, true, true, false, true]) (.c (.bool false)), none⟩,
  ⟨some [true, false, false, true, true], .move (.s [false, false, false, true, true]), none⟩,
  ⟨some [false, true, false, true, true], .move (.s [true, true, false]), some ([true, false, false, true, true], true)⟩,
  ⟨some [true, true, false, true, true], .bin .eql (.s [false, true, false, true, true]) (.c (.int .i64 0)), some ([true, false, false, true, true], true)⟩,
  ⟨some [false, false, true, true, true], .pick (.s [true, false, false, true, true]) (.s [true, true, false, true, true]) (.c (.bool false)), none⟩,
  ⟨some [true, false, true, true, true], .move (.s [false, false, true, true, true]), none⟩,
  ⟨some [false, true, true, true, true], .move (.s [true, false, true]), some ([true, false, true, true, true], true)⟩,
  ⟨some [true, true, true, true, true], .bin .eql (.s [false, true, true, true, true]) (.c (.int .i64 0)), some ([true, false, true, true, true], true)⟩,
  ⟨some [false, false, false, false, false, false], .pick (.s [true, false, true, true, true]) (.s [true, true, true, true, true]) (.c (.bool false)), none⟩,
  ⟨some [true, false, false, false, false, false], .move (.s [false, false, false, false, false, false]), none⟩,
  ⟨some [false, true, false, false, false, false], .move (.s [false, true]), some ([true, false, false, false, false, false], true)⟩,
  ⟨some [true, true, false, false, false, false], .move (.s [false, false, false]), some ([true, false, false, false, false, false], true)⟩,
  ⟨some [false, false, true, false, false, false], .move (.s [false, true, false]), some ([true, false, false, false, false, false], true)⟩,
  ⟨some [true, false, true, false, false, false], .bin .add (.s [true, true, false, false, false, false]) (.s [false, false, true, false, false, false]), some ([true, false, false, false, false, false], true)⟩,
  ⟨some [false, true, true, false, false, false], .bin .eql (.s [false, true, false, false, false, false]) (.s [true, false, true, false, false, false]), some ([true, false, false, false, false, false], true)⟩,
  ⟨some [true, true, true, false, false, false], .pick (.s [true, false, false, false, false, false]) (.s [false, true, true, false, false, false]) (.c (.bool false)), none⟩,
  ⟨some [false, false, false, true, false, false], .move (.s [true, true, true, false, false, false]), none⟩,
  ⟨some [true, false, false, true, false, false], .move (.s [false, true]), some ([false, false, false, true, false, false], true)⟩,
  ⟨some [false, true, false, true, false, false], .move (.s [false, false, true]), some ([false, false, false, true, false, false], true)⟩,
  ⟨some [true, true, false, true, false, false], .bin .eql (.s [true, false, false, true, false, false]) (.s [false, true, false, true, false, false]), some ([false, false, false, true, false, false], true)⟩,
  ⟨some [false, false, true, true, false, false], .pick (.s [false, false, false, true, false, false]) (.s [true, true, false, true, false, false]) (.c (.bool false)), none⟩,
  ⟨some [true, false, true, true, false, false], .move (.s [false, false, true, true, false, false]), none⟩,
  ⟨some [false, true, true, true, false, false], .call false (.c (.func 20 [])) [], some ([true, false, true, true, false, false], true)⟩,
  ⟨some [true, true, true, true, false, false], .pick (.s [true, false, true, true, false, false]) (.s [false, true, true, true, false, false]) (.c (.bool false)), none⟩,
  ⟨some [true, false], .move (.s [true, true, true, true, false, false]), none⟩])
def c8 : CFunc := { params := [[], [false]], results := [.slot [true, false]], shared := false, body := (.seq c8_o0
 (.seq c8_o1
 (.seq c8_o2
 (.seq c8_o3
 (.seq c8_o4
 (.seq c8_o5
 (.seq c8_o6
 (.seq c8_o7
 .ret)))))))) }
-- numnah/numnahlaw05.SampleFalls
-- c9_o0: 0=[] 1=[f]
-- c9_o1: 1=[f] 2=[t]
-- c9_o2: 1=[f] 5=[f, t] 6=[t, t] 7=[f, f, f]
-- c9_o3: 1=[f] 5=[f, t] 6=[t, t] 7=[f, f, f]
-- c9_o4: 1=[f] 5=[f, t] 6=[t, t] 7=[f, f, f] 8=[t, f, f] 9=[f, t, f]
-- c9_o5: 1=[f] 5=[f, t] 6=[t, t] 7=[f, f, f] 8=[t, f, f] 9=[f, t, f] 10=[t, t, f] 11=[f, f, t]
-- c9_o6: 
-- c9_o7: 1=[f] 5=[f, t] 6=[t, t] 7=[f, f, f] 8=[t, f, f] 10=[t, t, f]
-- c9_o8: 1=[f] 5=[f, t] 6=[t, t] 7=[f, f, f] 8=[t, f, f] 10=[t, t, f] 12=[t, f, t]
-- c9_o9: 1=[f] 5=[f, t] 6=[t, t] 7=[f, f, f] 8=[t, f, f] 10=[t, t, f] 12=[t, f, t]
-- c9_o10: 
-- c9_o11: 1=[f] 5=[f, t] 6=[t, t] 7=[f, f, f] 8=[t, f, f] 10=[t, t, f] 12=[t, f, t]
-- c9_l0: live slots [1, 5, 6, 7, 8, 10, 12]
-- c9_o12: 1=[f] 5=[f, t] 6=[t, t] 7=[f, f, f] 10=[t, t, f]
-- c9_o13: 1=[f] 5=[f, t] 6=[t, t] 7=[f, f, f] 10=[t, t, f]
-- c9_o14: 10=[t, t, f] 13=[f, t, t] 14=[t, t, t]
-- c9_o15: 
-- c9_o16: 
def c9_o0 : CCode := .trim [[], [false]] (.ops [
  ⟨some [true], .box none (.s []), none⟩,
  ⟨some [true, false], .move (.c (.bool false)), none⟩])
def c9_o1 : CCode := .trim [[false], [true]] (.ops [
  ⟨some [true, false, false, false], .load (some 3) (.s [true]), none⟩,
  ⟨some [false, true, false, false], .call false (.c (.func 22 [])) [(.s [true, false, false, false])], none⟩,
  ⟨some [false, false, false, false], .move (.s [false, true, false, false]), none⟩,
  ⟨some [true, true, false, false], .extract 0 (.s [false, false, false, false]), none⟩,
  ⟨some [false, false, true, false], .extract 1 (.s [false, false, false, false]), none⟩,
  ⟨some [true, false, true, false], .extract 2 (.s [false, false, false, false]), none⟩,
  ⟨some [false, true], .move (.s [true, true, false, false]), none⟩,
  ⟨some [true, true], .move (.s [false, false, true, false]), none⟩,
  ⟨some [false, false, false], .move (.s [true, false, true, false]), none⟩])
def c9_o2 : CCode := .trim [[false], [false, true], [true, true], [false, false, false]] (.ops [
  ⟨some [false, true, true, false], .move (.s [false]), none⟩,
  ⟨some [true, true, true, false], .move (.s [false, true]), none⟩,
  ⟨some [false, false, false, true], .bin .add (.s [true, true, true, false]) (.c (.int .i64 1)), none⟩,
  ⟨some [true, false, false, true], .call false (.c (.func 24 [])) [(.s [false, true, true, false]), (.s [false, false, false, true])], none⟩,
  ⟨some [false], .move (.s [true, false, false, true]), none⟩])
def c9_o3 : CCode := .trim [[false], [false, true], [true, true], [false, false, false]] (.ops [
  ⟨some [true, true, false, true], .move (.s [false, true]), none⟩,
  ⟨some [false, false, true, true], .move (.s [true, true]), none⟩,
  ⟨some [true, false, true, true], .move (.s [false, false, false]), none⟩,
  ⟨some [false, true, true, true], .call false (.c (.func 35 [])) [(.s [true, true, false, true]), (.s [false, false, true, true]), (.s [true, false, true, true])], none⟩,
  ⟨some [false, true, false, true], .move (.s [false, true, true, true]), none⟩,
  ⟨some [true, true, true, true], .extract 0 (.s [false, true, false, true]), none⟩,
  ⟨some [false, false, false, false, false], .extract 1 (.s [false, true, false, true]), none⟩,
  ⟨some [true, false, false], .move (.s [true, true, true, true]), none⟩,
  ⟨some [false, true, false], .move (.s [false, false, false, false, false]), none⟩])
def c9_o4 : CCode := .trim [[false], [false, true], [true, true], [false, false, false], [true, false, false], [false, true, false]] (.ops [
  ⟨some [false, true, false, false, false], .move (.s [false, true]), none⟩,
  ⟨some [true, true, false, false, false], .move (.s [false]), none⟩,
  ⟨some [false, false, true, false, false], .move (.s [true, true]), none⟩,
  ⟨some [true, false, true, false, false], .move (.s [false, false, false]), none⟩,
  ⟨some [false, true, true, false, false], .call false (.c (.func 23 [])) [(.s [false, true, false, false, false]), (.s [true, true, false, false, false]), (.s [false, false, true, false, false]), (.s [true, false, true, false, false])], none⟩,
  ⟨some [true, false, false, false, false], .move (.s [false, true, true, false, false]), none⟩,
  ⟨some [true, true, true, false, false], .extract 0 (.s [true, false, false, false, false]), none⟩,
  ⟨some [false, false, false, true, false], .extract 1 (.s [true, false, false, false, false]), none⟩,
  ⟨some [true, true, false], .alloc none [.int .i64 0, .int .i64 0], none⟩,
  ⟨none, .store 2 (.s [true, true, false]) (.s [true, true, true, false, false]), none⟩,
  ⟨some [false, false, true], .move (.s [false, false, false, true, false]), none⟩])
def c9_o5 : CCode := .trim [[false], [false, true], [true, true], [false, false, false], [true, false, false], [false, true, false], [true, true, false], [false, false, true]] (.draw 0 [
  ⟨some [true, false, false, true, false], .move (.s [false, true, false]), none⟩,
  ⟨some [false, true, false, true, false], .bin .neq (.s [true, false, false, true, false]) (.c (.int .i64 0)), none⟩,
  ⟨some [true, true, false, true, false], .move (.s [false, true, false, true, false]), none⟩,
  ⟨some [false, false, true, true, false], .move (.s [false, false, true]), some ([true, true, false, true, false], false)⟩,
  ⟨some [true, false, true, true, false], .bin .neq (.s [false, false, true, true, false]) (.c (.int .i64 0)), some ([true, true, false, true, false], false)⟩,
  ⟨some [false, true, true, true, false], .pick (.s [true, true, false, true, false]) (.c (.bool true)) (.s [true, false, true, true, false]), none⟩,
  ⟨some [true, true, true, true, false], .move (.s [false, true, true, true, false]), none⟩,
  ⟨some [false, false, false, false, true], .move (.s [true, false, false]), some ([true, true, true, true, false], false)⟩,
  ⟨some [true, false, false, false, true], .len 1 (.s [false, false, false, false, true]), some ([true, true, true, true, false], false)⟩,
  ⟨some [false, true, false, false, true], .move (.s [false, true]), some ([true, true, true, true, false], false)⟩,
  ⟨some [true, true, false, false, true], .bin .add (.s [false, true, false, false, true]) (.c (.int .i64 1)), some ([true, true, true, true, false], false)⟩,
  ⟨some [false, false, true, false, true], .bin .neq (.s [true, false, false, false, true]) (.s [true, true, false, false, true]), some ([true, true, true, true, false], false)⟩,
  ⟨some [true, false, true, false, true], .pick (.s [true, true, true, true, false]) (.c (.bool true)) (.s [false, false, true, false, true]), none⟩,
  ⟨some [false, true, true, false, true], .move (.s [true, false, true, false, true]), none⟩,
  ⟨some [true, true, true, false, true], .move (.s [true, false, false]), some ([false, true, true, false, true], false)⟩,
  ⟨some [false, false, false, true, true], .move (.s [false]), some ([false, true, true, false, true], false)⟩,
  ⟨some [true, false, false, true, true], .idxSl 2 (.s [true, true, true, false, true]) (.s [false, false, false, true, true]), some ([false, true, true, false, true], false)⟩,
  ⟨some [false, true, false, true, true], .load (some 2) (.s [true, false, false, true, true]), some ([false, true, true, false, true], false)⟩,
  ⟨some [true, true, false, true, true], .load (some 2) (.s [true, true, false]), some ([false, true, true, false, true], false)⟩,
  ⟨some [false, false, true, true, true], .eqa [.i .i64, .i .i64] true (.s [false, true, false, true, true]) (.s [true, true, false, true, true]), some ([false, true, true, false, true], false)⟩,
  ⟨some [true, false, true, true, true], .pick (.s [false, true, true, false, true]) (.c (.bool true)) (.s [false, false, true, true, true]), none⟩]
  [(17, 18)] [[], [0], [0, 1], [0, 1, 2], [0, 1, 2, 3], [0, 1, 2, 3, 4], [0, 1, 2, 3, 4, 5], [0, 1, 2, 3, 4, 5, 6], [0, 1, 2, 3, 4, 5, 6, 7], [0, 1, 2, 3, 4, 5, 6], [0, 1, 2, 3, 4, 5, 6, 9], [0, 1, 2, 3, 4, 5, 6, 7, 8, 9, 10], [0, 1, 2, 3, 4, 5, 6, 7, 8, 9, 10, 11], [0, 1, 2, 3, 4, 5, 6, 7, 8, 9, 10, 11, 12], [0, 1, 2, 3, 4, 5, 6, 7, 8, 9, 10, 11, 12, 13], [0, 1, 2, 3, 4, 5, 6, 7, 8, 9, 10, 11, 12, 13], [0, 1, 2, 3, 4, 5, 6, 7, 8, 9, 10, 11, 12, 13, 14, 15], [0, 1, 2, 3, 4, 5, 6, 7, 8, 9, 10, 11, 12, 13, 14, 15, 16], [0, 1, 2, 3, 4, 5, 6, 7, 8, 9, 10, 11, 12, 13], [0, 1, 2, 3, 4, 5, 6, 7, 8, 9, 10, 11, 12, 13, 14, 15, 16, 17, 18], [0, 1, 2, 3, 4, 5, 6, 7, 8, 9, 10, 11, 12, 13, 14, 15, 16, 17, 18, 19]])
def c9_o6 : CCode := .trim [] (.ops [
  ⟨some [true, false], .move (.c (.bool false)), none⟩])
def c9_o7 : CCode := .trim [[false], [false, true], [true, true], [false, false, false], [true, false, false], [true, true, false]] (.ops [
  ⟨some [true, false, true], .move (.c (.int .i64 0)), none⟩])
def c9_o8 : CCode := .trim [[false], [false, true], [true, true], [false, false, false], [true, false, false], [true, true, false], [true, false, true]] (.ops [
  ⟨some [false, true, true, true, true], .move (.s [true, false, true]), none⟩,
  ⟨some [true, true, true, true, true], .move (.s [false, true]), none⟩,
  ⟨some [false, false, false, false, false, false], .bin .leq (.s [false, true, true, true, true]) (.s [true, true, true, true, true]), none⟩])
def c9_o9 : CCode := .trim [[false], [false, true], [true, true], [false, false, false], [true, false, false], [true, true, false], [true, false, true]] (.draw 0 [
  ⟨some [true, true, false, false, false, false], .move (.s [true, false, false]), none⟩,
  ⟨some [false, false, true, false, false, false], .move (.s [true, false, true]), none⟩,
  ⟨some [true, false, true, false, false, false], .idxSl 2 (.s [true, true, false, false, false, false]) (.s [false, false, true, false, false, false]), none⟩,
  ⟨some [false, true, true, false, false, false], .load (some 2) (.s [true, false, true, false, false, false]), none⟩,
  ⟨some [true, true, true, false, false, false], .call false (.c (.func 26 [])) [(.s [false, true, true, false, false, false])], none⟩,
  ⟨some [false, false, false, true, false, false], .un .not (.s [true, true, true, false, false, false]), none⟩,
  ⟨some [true, false, false, true, false, false], .move (.s [false, false, false, true, false, false]), none⟩,
  ⟨some [false, true, false, true, false, false], .move (.s [true, false, true]), some ([true, false, false, true, false, false], false)⟩,
  ⟨some [true, true, false, true, false, false], .bin .gtr (.s [false, true, false, true, false, false]) (.c (.int .i64 0)), some ([true, false, false, true, false, false], false)⟩,
  ⟨some [false, false, true, true, false, false], .move (.s [true, true, false, true, false, false]), some ([true, false, false, true, false, false], false)⟩,
  ⟨some [true, false, true, true, false, false], .move (.s [true, false, false]), some ([false, false, true, true, false, false], true)⟩,
  ⟨some [false, true, true, true, false, false], .move (.s [true, false, true]), some ([false, false, true, true, false, false], true)⟩,
  ⟨some [true, true, true, true, false, false], .bin .sub (.s [false, true, true, true, false, false]) (.c (.int .i64 1)), some ([false, false, true, true, false, false], true)⟩,
  ⟨some [false, false, false, false, true, false], .idxSl 2 (.s [true, false, true, true, false, false]) (.s [true, true, true, true, false, false]), some ([false, false, true, true, false, false], true)⟩,
  ⟨some [true, false, false, false, true, false], .load (some 2) (.s [false, false, false, false, true, false]), some ([false, false, true, true, false, false], true)⟩,
  ⟨some [false, true, false, false, true, false], .move (.s [true, false, false]), some ([false, false, true, true, false, false], true)⟩,
  ⟨some [true, true, false, false, true, false], .move (.s [true, false, true]), some ([false, false, true, true, false, false], true)⟩,
  ⟨some [false, false, true, false, true, false], .idxSl 2 (.s [false, true, false, false, true, false]) (.s [true, true, false, false, true, false]), some ([false, false, true, true, false, false], true)⟩,
  ⟨some [true, false, true, false, true, false], .load (some 2) (.s [false, false, true, false, true, false]), some ([false, false, true, true, false, false], true)⟩,
  ⟨some [false, true, true, false, true, false], .call false (.c (.func 27 [])) [(.s [true, false, false, false, true, false]), (.s [true, false, true, false, true, false])], some ([false, false, true, true, false, false], true)⟩,
  ⟨some [true, true, true, false, true, false], .pick (.s [false, false, true, true, false, false]) (.s [false, true, true, false, true, false]) (.c (.bool false)), some ([true, false, false, true, false, false], false)⟩,
  ⟨some [false, false, false, true, true, false], .pick (.s [true, false, false, true, false, false]) (.c (.bool true)) (.s [true, true, true, false, true, false]), none⟩]
  [(14, 18)] [[], [], [0, 1], [0, 1, 2], [0, 1, 2, 3], [0, 1, 2, 3, 4], [0, 1, 2, 3, 4, 5], [0, 1, 2, 3, 4, 5, 6], [0, 1, 2, 3, 4, 5, 6, 7], [0, 1, 2, 3, 4, 5, 6, 7, 8], [0, 1, 2, 3, 4, 5, 6, 7, 8, 9], [0, 1, 2, 3, 4, 5, 6, 7, 8, 9], [0, 1, 2, 3, 4, 5, 6, 7, 8, 9, 11], [0, 1, 2, 3, 4, 5, 6, 7, 8, 9, 10, 11, 12], [0, 1, 2, 3, 4, 5, 6, 7, 8, 9, 10, 11, 12, 13], [0, 1, 2, 3, 4, 5, 6, 7, 8, 9], [0, 1, 2, 3, 4, 5, 6, 7, 8, 9], [0, 1, 2, 3, 4, 5, 6, 7, 8, 9, 15, 16], [0, 1, 2, 3, 4, 5, 6, 7, 8, 9, 15, 16, 17], [0, 1, 2, 3, 4, 5, 6, 7, 8, 9, 10, 11, 12, 13, 14, 15, 16, 17, 18], [0, 1, 2, 3, 4, 5, 6, 7, 8, 9, 10, 11, 12, 13, 14, 15, 16, 17, 18, 19], [0, 1, 2, 3, 4, 5, 6, 7, 8, 9, 10, 11, 12, 13, 14, 15, 16, 17, 18, 19, 20]])
def c9_o10 : CCode := .trim [] (.ops [
  ⟨some [true, false], .move (.c (.bool false)), none⟩])
def c9_o11 : CCode := .trim [[false], [false, true], [true, true], [false, false, false], [true, false, false], [true, true, false], [true, false, true]] (.ops [
  ⟨some [true, false, false, false, false, false], .move (.s [true, false, true]), none⟩,
  ⟨some [false, true, false, false, false, false], .bin .add (.s [true, false, false, false, false, false]) (.c (.int .i64 1)), none⟩,
  ⟨some [true, false, true], .move (.s [false, true, false, false, false, false]), none⟩])
def c9_b0 : CCode := (.seq (.seq c9_o8
 (.cond (.s [false, false, false, false, false, false]) .skip (.exit 0)))
 (.seq (.block 1 (.seq c9_o9
 (.cond (.s [false, false, false, true, true, false]) (.seq c9_o10
 .ret) .skip)))
 c9_o11))
def c9_l0 : CCode := .loop [[false], [false, true], [true, true], [false, false, false], [true, false, false], [true, true, false], [true, false, true]] c9_b0
def c9_o12 : CCode := .trim [[false], [false, true], [true, true], [false, false, false], [true, true, false]] (.ops [
  ⟨some [true, false, false, true, true, false], .move (.s [false, false, false]), none⟩,
  ⟨some [false, true, false, true, true, false], .bin .add (.s [true, false, false, true, true, false]) (.c (.int .i64 1)), none⟩,
  ⟨some [true, true, false, true, true, false], .move (.s [true, true]), none⟩,
  ⟨some [false, false, true, true, true, false], .bin .lss (.s [false, true, false, true, true, false]) (.s [true, true, false, true, true, false]), none⟩])
def c9_o13 : CCode := .trim [[false], [false, true], [true, true], [false, false, false], [true, true, false]] (.ops [
  ⟨some [false, true, true, true, true, false], .move (.s [false, true]), none⟩,
  ⟨some [true, true, true, true, true, false], .move (.s [false]), none⟩,
  ⟨some [false, false, false, false, false, true], .move (.s [true, true]), none⟩,
  ⟨some [true, false, false, false, false, true], .move (.s [false, false, false]), none⟩,
  ⟨some [false, true, false, false, false, true], .bin .add (.s [true, false, false, false, false, true]) (.c (.int .i64 1)), none⟩,
  ⟨some [true, true, false, false, false, true], .call false (.c (.func 23 [])) [(.s [false, true, true, true, true, false]), (.s [true, true, true, true, true, false]), (.s [false, false, false, false, false, true]), (.s [false, true, false, false, false, true])], none⟩,
  ⟨some [true, false, true, true, true, false], .move (.s [true, true, false, false, false, true]), none⟩,
  ⟨some [false, false, true, false, false, true], .extract 0 (.s [true, false, true, true, true, false]), none⟩,
  ⟨some [true, false, true, false, false, true], .extract 1 (.s [true, false, true, true, true, false]), none⟩,
  ⟨some [false, true, true], .alloc none [.int .i64 0, .int .i64 0], none⟩,
  ⟨none, .store 2 (.s [false, true, true]) (.s [false, false, true, false, false, true]), none⟩,
  ⟨some [true, true, true], .move (.s [true, false, true, false, false, true]), none⟩])
def c9_o14 : CCode := .trim [[true, true, false], [false, true, true], [true, true, true]] (.ops [
  ⟨some [false, true, true, false, false, true], .move (.s [true, true, true]), none⟩,
  ⟨some [true, true, true, false, false, true], .bin .neq (.s [false, true, true, false, false, true]) (.c (.int .i64 0)), none⟩,
  ⟨some [false, false, false, true, false, true], .move (.s [true, true, true, false, false, true]), none⟩,
  ⟨some [true, false, false, true, false, true], .load (some 2) (.s [false, true, true]), some ([false, false, false, true, false, true], false)⟩,
  ⟨some [false, true, false, true, false, true], .call false (.c (.func 26 [])) [(.s [true, false, false, true, false, true])], some ([false, false, false, true, false, true], false)⟩,
  ⟨some [true, true, false, true, false, true], .un .not (.s [false, true, false, true, false, true]), some ([false, false, false, true, false, true], false)⟩,
  ⟨some [false, false, true, true, false, true], .pick (.s [false, false, false, true, false, true]) (.c (.bool true)) (.s [true, true, false, true, false, true]), none⟩,
  ⟨some [true, false, true, true, false, true], .move (.s [false, false, true, true, false, true]), none⟩,
  ⟨some [false, true, true, true, false, true], .load (some 2) (.s [false, true, true]), some ([true, false, true, true, false, true], false)⟩,
  ⟨some [true, true, true, true, false, true], .load (some 2) (.s [true, true, false]), some ([true, false, true, true, false, true], false)⟩,
  ⟨some [false, false, false, false, true, true], .call false (.c (.func 27 [])) [(.s [false, true, true, true, false, true]), (.s [true, true, true, true, false, true])], some ([true, false, true, true, false, true], false)⟩,
  ⟨some [true, false, false, false, true, true], .pick (.s [true, false, true, true, false, true]) (.c (.bool true)) (.s [false, false, false, false, true, true]), none⟩])
def c9_o15 : CCode := .trim [] (.ops [
  ⟨some [true, false], .move (.c (.bool false)), none⟩])
def c9_o16 : CCode := .trim [] (.ops [
  ⟨some [false, true, false, false, true, true], .call false (.c (.func 20 [])) [], none⟩,
  ⟨some [true, false], .move (.s [false, true, false, false, true, true]), none⟩])
def c9 : CFunc := { params := [[], [false]], results := [.slot [true, false]], shared := false, body := (.seq c9_o0
 (.seq c9_o1
 (.seq c9_o2
 (.seq c9_o3
 (.seq c9_o4
 (.seq (.seq c9_o5
 (.cond (.s [true, false, true, true, true]) (.seq c9_o6
 .ret) .skip))
 (.seq (.seq c9_o7
 (.block 0 c9_l0))
 (.seq (.seq c9_o12
 (.cond (.s [false, false, true, true, true, false]) (.seq c9_o13
 (.seq c9_o14
 (.cond (.s [true, false, false, false, true, true]) (.seq c9_o15
 .ret) .skip))) .skip))
 (.seq c9_o16
 .ret))))))))) }
-- numnah/numnahlaw05.SampleRemains
-- c10_o0: 0=[] 1=[f]
-- c10_o1: 1=[f] 2=[t]
-- c10_o2: 1=[f] 5=[f, t] 6=[t, t] 7=[f, f, f]
-- c10_o3: 1=[f] 5=[f, t] 6=[t, t] 7=[f, f, f]
-- c10_o4: 1=[f] 5=[f, t] 6=[t, t] 7=[f, f, f] 8=[t, f, f] 9=[f, t, f] 10=[t, t, f]
-- c10_o5: 
-- c10_o6: 1=[f] 5=[f, t] 6=[t, t] 7=[f, f, f] 8=[t, f, f] 9=[f, t, f]
-- c10_o7: 1=[f] 5=[f, t] 6=[t, t] 7=[f, f, f] 8=[t, f, f] 9=[f, t, f] 11=[f, f, t]
-- c10_o8: 1=[f] 5=[f, t] 6=[t, t] 7=[f, f, f] 8=[t, f, f] 9=[f, t, f] 11=[f, f, t] 12=[t, f, t]
-- c10_o9: 
-- c10_o10: 5=[f, t] 6=[t, t] 7=[f, f, f] 8=[t, f, f]
-- c10_o11: 5=[f, t] 6=[t, t] 7=[f, f, f] 8=[t, f, f]
-- c10_o12: 8=[t, f, f] 13=[f, t, t] 15=[f, f, f, f]
-- c10_o13: 
-- c10_o14: 
def c10_o0 : CCode := .trim [[], [false]] (.ops [
  ⟨some [true], .box none (.s []), none⟩,
  ⟨some [true, false], .move (.c (.bool false)), none⟩])
def c10_o1 : CCode := .trim [[false], [true]] (.ops [
  ⟨some [false, true, false, false], .load (some 3) (.s [true]), none⟩,
  ⟨some [true, true, false, false], .call false (.c (.func 22 [])) [(.s [false, true, false, false])], none⟩,
  ⟨some [true, false, false, false], .move (.s [true, true, false, false]), none⟩,
  ⟨some [false, false, true, false], .extract 0 (.s [true, false, false, false]), none⟩,
  ⟨some [true, false, true, false], .extract 1 (.s [true, false, false, false]), none⟩,
  ⟨some [false, true, true, false], .extract 2 (.s [true, false, false, false]), none⟩,
  ⟨some [false, true], .move (.s [false, false, true, false]), none⟩,
  ⟨some [true, true], .move (.s [true, false, true, false]), none⟩,
  ⟨some [false, false, false], .move (.s [false, true, true, false]), none⟩])
def c10_o2 : CCode := .trim [[false], [false, true], [true, true], [false, false, false]] (.ops [
  ⟨some [true, true, true, false], .move (.s [false]), none⟩,
  ⟨some [false, false, false, true], .move (.s [false, true]), none⟩,
  ⟨some [true, false, false, true], .bin .add (.s [false, false, false, true]) (.c (.int .i64 1)), none⟩,
  ⟨some [false, true, false, true], .call false (.c (.func 24 [])) [(.s [true, true, true, false]), (.s [true, false, false, true])], none⟩,
  ⟨some [false], .move (.s [false, true, false, true]), none⟩])
def c10_o3 : CCode := .trim [[false], [false, true], [true, true], [false, false, false]] (.ops [
  ⟨some [false, false, true, true], .move (.s [false, true]), none⟩,
  ⟨some [true, false, true, true], .move (.s [true, true]), none⟩,
  ⟨some [false, true, true, true], .move (.s [false, false, false]), none⟩,
  ⟨some [true, true, true, true], .call false (.c (.func 36 [])) [(.s [false, false, true, true]), (.s [true, false, true, true]), (.s [false, true, true, true])], none⟩,
  ⟨some [true, true, false, true], .move (.s [true, true, true, true]), none⟩,
  ⟨some [false, false, false, false, false], .extract 0 (.s [true, true, false, true]), none⟩,
  ⟨some [true, false, false, false, false], .extract 1 (.s [true, true, false, true]), none⟩,
  ⟨some [false, true, false, false, false], .extract 2 (.s [true, true, false, true]), none⟩,
  ⟨some [true, false, false], .alloc none [.int .i64 0, .int .i64 0], none⟩,
  ⟨none, .store 2 (.s [true, false, false]) (.s [false, false, false, false, false]), none⟩,
  ⟨some [false, true, false], .move (.s [true, false, false, false, false]), none⟩,
  ⟨some [true, true, false], .move (.s [false, true, false, false, false]), none⟩])
def c10_o4 : CCode := .trim [[false], [false, true], [true, true], [false, false, false], [true, false, false], [false, true, false], [true, true, false]] (.ops [
  ⟨some [true, true, false, false, false], .move (.s [true, true, false]), none⟩,
  ⟨some [false, false, true, false, false], .bin .neq (.s [true, true, false, false, false]) (.c (.int .i64 0)), none⟩,
  ⟨some [true, false, true, false, false], .move (.s [false, false, true, false, false]), none⟩,
  ⟨some [false, true, true, false, false], .load (some 2) (.s [true, false, false]), some ([true, false, true, false, false], false)⟩,
  ⟨some [true, true, true, false, false], .call false (.c (.func 26 [])) [(.s [false, true, true, false, false])], some ([true, false, true, false, false], false)⟩,
  ⟨some [false, false, false, true, false], .un .not (.s [true, true, true, false, false]), some ([true, false, true, false, false], false)⟩,
  ⟨some [true, false, false, true, false], .pick (.s [true, false, true, false, false]) (.c (.bool true)) (.s [false, false, false, true, false]), none⟩,
  ⟨some [false, true, false, true, false], .move (.s [true, false, false, true, false]), none⟩,
  ⟨some [true, true, false, true, false], .move (.s [false, true, false]), some ([false, true, false, true, false], false)⟩,
  ⟨some [false, false, true, true, false], .bin .lss (.s [true, true, false, true, false]) (.c (.int .i64 0)), some ([false, true, false, true, false], false)⟩,
  ⟨some [true, false, true, true, false], .pick (.s [false, true, false, true, false]) (.c (.bool true)) (.s [false, false, true, true, false]), none⟩,
  ⟨some [false, true, true, true, false], .move (.s [true, false, true, true, false]), none⟩,
  ⟨some [true, true, true, true, false], .move (.s [false, true, false]), some ([false, true, true, true, false], false)⟩,
  ⟨some [false, false, false, false, true], .move (.s [false, true]), some ([false, true, true, true, false], false)⟩,
  ⟨some [true, false, false, false, true], .bin .gtr (.s [true, true, true, true, false]) (.s [false, false, false, false, true]), some ([false, true, true, true, false], false)⟩,
  ⟨some [false, true, false, false, true], .pick (.s [false, true, true, true, false]) (.c (.bool true)) (.s [true, false, false, false, true]), none⟩])
def c10_o5 : CCode := .trim [] (.ops [
  ⟨some [true, false], .move (.c (.bool false)), none⟩])
def c10_o6 : CCode := .trim [[false], [false, true], [true, true], [false, false, false], [true, false, false], [false, true, false]] (.ops [
  ⟨some [true, true, false, false, true], .move (.s [false, true]), none⟩,
  ⟨some [false, false, true, false, true], .move (.s [false, true, false]), none⟩,
  ⟨some [true, false, true, false, true], .move (.s [true, true]), none⟩,
  ⟨some [false, true, true, false, true], .move (.s [false, false, false]), none⟩,
  ⟨some [true, true, true, false, true], .call false (.c (.func 37 [])) [(.s [true, true, false, false, true]), (.s [false, false, true, false, true]), (.s [true, false, true, false, true]), (.s [false, true, true, false, true])], none⟩,
  ⟨some [false, false, false, true, true], .move (.s [false, true]), none⟩,
  ⟨some [true, false, false, true, true], .move (.s [false, true, false]), none⟩,
  ⟨some [false, true, false, true, true], .call false (.c (.func 29 [])) [(.s [false, false, false, true, true]), (.s [true, false, false, true, true])], none⟩,
  ⟨some [true, true, false, true, true], .call false (.c (.func 25 [])) [(.s [true, true, true, false, true]), (.s [false, true, false, true, true])], none⟩,
  ⟨some [false, false, true], .alloc none [.int .i64 0, .int .i64 0], none⟩,
  ⟨none, .store 2 (.s [false, false, true]) (.s [true, true, false, true, true]), none⟩])
def c10_o7 : CCode := .trim [[false], [false, true], [true, true], [false, false, false], [true, false, false], [false, true, false], [false, false, true]] (.ops [
  ⟨some [false, false, true, true, true], .move (.s [false, true]), none⟩,
  ⟨some [true, false, true, true, true], .move (.s [false]), none⟩,
  ⟨some [false, true, true, true, true], .move (.s [true, true]), none⟩,
  ⟨some [true, true, true, true, true], .move (.s [false, false, false]), none⟩,
  ⟨some [false, false, false, false, false, false], .call false (.c (.func 37 [])) [(.s [false, false, true, true, true]), (.s [true, false, true, true, true]), (.s [false, true, true, true, true]), (.s [true, true, true, true, true])], none⟩,
  ⟨some [true, false, false, false, false, false], .move (.s [false, true]), none⟩,
  ⟨some [false, true, false, false, false, false], .move (.s [false]), none⟩,
  ⟨some [true, true, false, false, false, false], .call false (.c (.func 29 [])) [(.s [true, false, false, false, false, false]), (.s [false, true, false, false, false, false])], none⟩,
  ⟨some [false, false, true, false, false, false], .call false (.c (.func 25 [])) [(.s [false, false, false, false, false, false]), (.s [true, true, false, false, false, false])], none⟩,
  ⟨some [true, false, true], .alloc none [.int .i64 0, .int .i64 0], none⟩,
  ⟨none, .store 2 (.s [true, false, true]) (.s [false, false, true, false, false, false]), none⟩])
def c10_o8 : CCode := .trim [[false], [false, true], [true, true], [false, false, false], [true, false, false], [false, true, false], [false, false, true], [true, false, true]] (.ops [
  ⟨some [true, false, true, false, false, false], .load (some 2) (.s [false, false, true]), none⟩,
  ⟨some [false, true, true, false, false, false], .load (some 2) (.s [true, false, false]), none⟩,
  ⟨some [true, true, true, false, false, false], .eqa [.i .i64, .i .i64] true (.s [true, false, true, false, false, false]) (.s [false, true, true, false, false, false]), none⟩,
  ⟨some [false, false, false, true, false, false], .move (.s [true, true, true, false, false, false]), none⟩,
  ⟨some [true, false, false, true, false, false], .load (some 2) (.s [true, false, false]), some ([false, false, false, true, false, false], false)⟩,
  ⟨some [false, true, false, true, false, false], .load (some 2) (.s [true, false, true]), some ([false, false, false, true, false, false], false)⟩,
  ⟨some [true, true, false, true, false, false], .call false (.c (.func 27 [])) [(.s [true, false, false, true, false, false]), (.s [false, true, false, true, false, false])], some ([false, false, false, true, false, false], false)⟩,
  ⟨some [false, false, true, true, false, false], .pick (.s [false, false, false, true, false, false]) (.c (.bool true)) (.s [true, true, false, true, false, false]), none⟩,
  ⟨some [true, false, true, true, false, false], .move (.s [false, false, true, true, false, false]), none⟩,
  ⟨some [false, true, true, true, false, false], .load (some 2) (.s [true, false, true]), some ([true, false, true, true, false, false], false)⟩,
  ⟨some [true, true, true, true, false, false], .load (some 2) (.s [true, false, false]), some ([true, false, true, true, false, false], false)⟩,
  ⟨some [false, false, false, false, true, false], .eqa [.i .i64, .i .i64] false (.s [false, true, true, true, false, false]) (.s [true, true, true, true, false, false]), some ([true, false, true, true, false, false], false)⟩,
  ⟨some [true, false, false, false, true, false], .move (.s [false, false, false, false, true, false]), some ([true, false, true, true, false, false], false)⟩,
  ⟨some [false, true, false, false, true, false], .move (.s [false]), some ([true, false, false, false, true, false], true)⟩,
  ⟨some [true, true, false, false, true, false], .move (.s [false, true, false]), some ([true, false, false, false, true, false], true)⟩,
  ⟨some [false, false, true, false, true, false], .bin .lss (.s [false, true, false, false, true, false]) (.s [true, true, false, false, true, false]), some ([true, false, false, false, true, false], true)⟩,
  ⟨some [true, false, true, false, true, false], .pick (.s [true, false, false, false, true, false]) (.s [false, false, true, false, true, false]) (.c (.bool false)), some ([true, false, true, true, false, false], false)⟩,
  ⟨some [false, true, true, false, true, false], .pick (.s [true, false, true, true, false, false]) (.c (.bool true)) (.s [true, false, true, false, true, false]), none⟩,
  ⟨some [true, true, true, false, true, false], .move (.s [false, true, true, false, true, false]), none⟩,
  ⟨some [false, false, false, true, true, false], .move (.s [true, true]), some ([true, true, true, false, true, false], false)⟩,
  ⟨some [true, false, false, true, true, false], .move (.s [false, true]), some ([true, true, true, false, true, false], false)⟩,
  ⟨some [false, true, false, true, true, false], .bin .eql (.s [false, false, false, true, true, false]) (.s [true, false, false, true, true, false]), some ([true, true, true, false, true, false], false)⟩,
  ⟨some [true, true, false, true, true, false], .move (.s [false, true, false, true, true, false]), some ([true, true, true, false, true, false], false)⟩,
  ⟨some [false, false, true, true, true, false], .load (some 2) (.s [true, false, false]), some ([true, true, false, true, true, false], true)⟩,
  ⟨some [true, false, true, true, true, false], .build [.int .i64 0, .int .i64 0] [(0, 1, (.c (.int .i64 0))), (1, 1, (.c (.int .i64 1)))], some ([true, true, false, true, true, false], true)⟩,
  ⟨some [false, true, true, true, true, false], .eqa [.i .i64, .i .i64] true (.s [false, false, true, true, true, false]) (.s [true, false, true, true, true, false]), some ([true, true, false, true, true, false], true)⟩,
  ⟨some [true, true, true, true, true, false], .pick (.s [true, true, false, true, true, false]) (.s [false, true, true, true, true, false]) (.c (.bool false)), some ([true, true, true, false, true, false], false)⟩,
  ⟨some [false, false, false, false, false, true], .pick (.s [true, true, true, false, true, false]) (.c (.bool true)) (.s [true, true, true, true, true, false]), none⟩])
def c10_o9 : CCode := .trim [] (.ops [
  ⟨some [true, false], .move (.c (.bool false)), none⟩])
def c10_o10 : CCode := .trim [[false, true], [true, true], [false, false, false], [true, false, false]] (.ops [
  ⟨some [true, false, false, false, false, true], .move (.s [false, false, false]), none⟩,
  ⟨some [false, true, false, false, false, true], .bin .add (.s [true, false, false, false, false, true]) (.c (.int .i64 1)), none⟩,
  ⟨some [true, true, false, false, false, true], .move (.s [true, true]), none⟩,
  ⟨some [false, false, true, false, false, true], .bin .lss (.s [false, true, false, false, false, true]) (.s [true, true, false, false, false, true]), none⟩])
def c10_o11 : CCode := .trim [[false, true], [true, true], [false, false, false], [true, false, false]] (.ops [
  ⟨some [false, true, true, false, false, true], .move (.s [false, true]), none⟩,
  ⟨some [true, true, true, false, false, true], .move (.s [true, true]), none⟩,
  ⟨some [false, false, false, true, false, true], .move (.s [false, false, false]), none⟩,
  ⟨some [true, false, false, true, false, true], .bin .add (.s [false, false, false, true, false, true]) (.c (.int .i64 1)), none⟩,
  ⟨some [false, true, false, true, false, true], .call false (.c (.func 36 [])) [(.s [false, true, true, false, false, true]), (.s [true, true, true, false, false, true]), (.s [true, false, false, true, false, true])], none⟩,
  ⟨some [true, false, true, false, false, true], .move (.s [false, true, false, true, false, true]), none⟩,
  ⟨some [true, true, false, true, false, true], .extract 0 (.s [true, false, true, false, false, true]), none⟩,
  ⟨some [false, false, true, true, false, true], .extract 1 (.s [true, false, true, false, false, true]), none⟩,
  ⟨some [true, false, true, true, false, true], .extract 2 (.s [true, false, true, false, false, true]), none⟩,
  ⟨some [false, true, true], .alloc none [.int .i64 0, .int .i64 0], none⟩,
  ⟨none, .store 2 (.s [false, true, true]) (.s [true, true, false, true, false, true]), none⟩,
  ⟨some [true, true, true], .move (.s [false, false, true, true, false, true]), none⟩,
  ⟨some [false, false, false, false], .move (.s [true, false, true, true, false, true]), none⟩])
def c10_o12 : CCode := .trim [[true, false, false], [false, true, true], [false, false, false, false]] (.ops [
  ⟨some [false, true, true, true, false, true], .move (.s [false, false, false, false]), none⟩,
  ⟨some [true, true, true, true, false, true], .bin .neq (.s [false, true, true, true, false, true]) (.c (.int .i64 0)), none⟩,
  ⟨some [false, false, false, false, true, true], .move (.s [true, true, true, true, false, true]), none⟩,
  ⟨some [true, false, false, false, true, true], .load (some 2) (.s [false, true, true]), some ([false, false, false, false, true, true], false)⟩,
  ⟨some [false, true, false, false, true, true], .call false (.c (.func 26 [])) [(.s [true, false, false, false, true, true])], some ([false, false, false, false, true, true], false)⟩,
  ⟨some [true, true, false, false, true, true], .un .not (.s [false, true, false, false, true, true]), some ([false, false, false, false, true, true], false)⟩,
  ⟨some [false, false, true, false, true, true], .pick (.s [false, false, false, false, true, true]) (.c (.bool true)) (.s [true, true, false, false, true, true]), none⟩,
  ⟨some [true, false, true, false, true, true], .move (.s [false, false, true, false, true, true]), none⟩,
  ⟨some [false, true, true, false, true, true], .load (some 2) (.s [false, true, true]), some ([true, false, true, false, true, true], false)⟩,
  ⟨some [true, true, true, false, true, true], .load (some 2) (.s [true, false, false]), some ([true, false, true, false, true, true], false)⟩,
  ⟨some [false, false, false, true, true, true], .call false (.c (.func 27 [])) [(.s [false, true, true, false, true, true]), (.s [true, true, true, false, true, true])], some ([true, false, true, false, true, true], false)⟩,
  ⟨some [true, false, false, true, true, true], .pick (.s [true, false, true, false, true, true]) (.c (.bool true)) (.s [false, false, false, true, true, true]), none⟩])
def c10_o13 : CCode := .trim [] (.ops [
  ⟨some [true, false], .move (.c (.bool false)), none⟩])
def c10_o14 : CCode := .trim [] (.ops [
  ⟨some [false, true, false, true, true, true], .call false (.c (.func 20 [])) [], none⟩,
  ⟨some [true, false], .move (.s [false, true, false, true, true, true]), none⟩])
def c10 : CFunc := { params := [[], [false]], results := [.slot [true, false]], shared := false, body := (.seq c10_o0
 (.seq c10_o1
 (.seq c10_o2
 (.seq c10_o3
 (.seq (.seq c10_o4
 (.cond (.s [false, true, false, false, true]) (.seq c10_o5
 .ret) .skip))
 (.seq c10_o6
 (.seq c10_o7
 (.seq (.seq c10_o8
 (.cond (.s [false, false, false, false, false, true]) (.seq c10_o9
 .ret) .skip))
 (.seq (.seq c10_o10
 (.cond (.s [false, false, true, false, false, true]) (.seq c10_o11
 (.seq c10_o12
 (.cond (.s [true, false, false, true, true, true]) (.seq c10_o13
 .ret) .skip))) .skip))
 (.seq c10_o14
 .ret)))))))))) }
-- numnah/numnahlaw05.SampleCourses
-- c11_o0: 0=[] 1=[f] 2=[t]
-- c11_o1: 0=[] 1=[f] 5=[f, t]
-- c11_o2: 0=[] 1=[f] 7=[f, f, f]
-- c11_o3: 0=[] 1=[f] 7=[f, f, f] 8=[t, f, f]
-- c11_o4: 0=[] 1=[f] 7=[f, f, f] 8=[t, f, f] 9=[f, t, f] 10=[t, t, f] 11=[f, f, t]
-- c11_o5: 0=[] 1=[f] 7=[f, f, f] 8=[t, f, f] 9=[f, t, f] 10=[t, t, f] 11=[f, f, t] 12=[t, f, t] 13=[f, t, t] 14=[t, t, t]
-- c11_o6: 0=[] 1=[f] 7=[f, f, f] 8=[t, f, f] 9=[f, t, f] 10=[t, t, f] 11=[f, f, t] 12=[t, f, t] 13=[f, t, t] 14=[t, t, t] 15=[f, f, f, f]
-- c11_o7: 
-- c11_o8: 0=[] 1=[f] 7=[f, f, f] 9=[f, t, f] 10=[t, t, f] 11=[f, f, t] 12=[t, f, t] 13=[f, t, t] 14=[t, t, t] 15=[f, f, f, f]
-- c11_o9: 9=[f, t, f] 10=[t, t, f] 11=[f, f, t] 12=[t, f, t] 13=[f, t, t] 14=[t, t, t]
-- c11_o10: 0=[] 1=[f] 7=[f, f, f] 9=[f, t, f] 10=[t, t, f] 11=[f, f, t] 12=[t, f, t] 13=[f, t, t] 14=[t, t, t]
-- c11_o11: 0=[] 1=[f] 7=[f, f, f] 9=[f, t, f] 10=[t, t, f] 11=[f, f, t] 12=[t, f, t] 13=[f, t, t] 14=[t, t, t] 16=[t, f, f, f]
-- c11_o12: 0=[] 1=[f] 7=[f, f, f] 9=[f, t, f] 10=[t, t, f] 11=[f, f, t] 12=[t, f, t] 13=[f, t, t] 14=[t, t, t] 16=[t, f, f, f] 17=[f, t, f, f] 18=[t, t, f, f]
-- c11_o13: 9=[f, t, f] 10=[t, t, f] 11=[f, f, t] 12=[t, f, t] 13=[f, t, t] 14=[t, t, t] 16=[t, f, f, f] 17=[f, t, f, f] 18=[t, t, f, f] 19=[f, f, t, f] 20=[t, f, t, f]
-- c11_o14: 
-- c11_o15: 12=[t, f, t] 13=[f, t, t] 16=[t, f, f, f] 19=[f, f, t, f] 20=[t, f, t, f]
-- c11_o16: 12=[t, f, t] 13=[f, t, t] 16=[t, f, f, f] 19=[f, f, t, f] 20=[t, f, t, f] 21=[f, t, t, f]
-- c11_o17: 12=[t, f, t] 13=[f, t, t] 16=[t, f, f, f] 19=[f, f, t, f] 20=[t, f, t, f] 21=[f, t, t, f]
-- c11_o18: 
-- c11_o19: 12=[t, f, t] 13=[f, t, t] 16=[t, f, f, f] 19=[f, f, t, f] 20=[t, f, t, f] 21=[f, t, t, f]
-- c11_l0: live slots [12, 13, 16, 19, 20, 21]
-- c11_o20: 
def c11_o0 : CCode := .trim [[], [false], [true]] (.ops [
  ⟨some [false, true], .box none (.s [true]), none⟩,
  ⟨some [true, true], .move (.c (.bool false)), none⟩])
def c11_o1 : CCode := .trim [[], [false], [false, true]] (.ops [
  ⟨some [true, true, true, false], .load (some 2) (.s [false, true]), none⟩,
  ⟨some [false, false, false, true], .call false (.c (.func 38 [])) [(.s [true, true, true, false])], none⟩,
  ⟨some [false, false, false], .alloc none [.nils, .nils], none⟩,
  ⟨none, .store 2 (.s [false, false, false]) (.s [false, false, false, true]), none⟩])
def c11_o2 : CCode := .trim [[], [false], [false, false, false]] (.ops [
  ⟨some [true, false, false, true], .move (.s []), none⟩,
  ⟨some [false, true, false, true], .load (some 2) (.s [false, false, false]), none⟩,
  ⟨some [true, true, false, true], .call false (.c (.func 33 [])) [(.s [true, false, false, true]), (.s [false, true, false, true])], none⟩,
  ⟨some [true, false, false], .move (.s [true, true, false, true]), none⟩])
def c11_o3 : CCode := .trim [[], [false], [false, false, false], [true, false, false]] (.ops [
  ⟨some [true, false, true, true], .move (.s []), none⟩,
  ⟨some [false, true, true, true], .move (.s [false]), none⟩,
  ⟨some [true, true, true, true], .load (some 2) (.s [false, false, false]), none⟩,
  ⟨some [false, false, false, false, false], .call false (.c (.func 34 [])) [(.s [true, false, true, true]), (.s [false, true, true, true]), (.s [true, true, true, true])], none⟩,
  ⟨some [false, false, true, true], .move (.s [false, false, false, false, false]), none⟩,
  ⟨some [true, false, false, false, false], .extract 0 (.s [false, false, true, true]), none⟩,
  ⟨some [false, true, false, false, false], .extract 1 (.s [false, false, true, true]), none⟩,
  ⟨some [true, true, false, false, false], .extract 2 (.s [false, false, true, true]), none⟩,
  ⟨some [false, true, false], .alloc none [.int .i64 0, .int .i64 0], none⟩,
  ⟨some [true, true, false], .alloc none [.int .i64 0, .int .i64 0], none⟩,
  ⟨none, .store 2 (.s [false, true, false]) (.s [true, false, false, false, false]), none⟩,
  ⟨none, .store 2 (.s [true, true, false]) (.s [false, true, false, false, false]), none⟩,
  ⟨some [false, false, true], .move (.s [true, true, false, false, false]), none⟩])
def c11_o4 : CCode := .trim [[], [false], [false, false, false], [true, false, false], [false, true, false], [true, true, false], [false, false, true]] (.ops [
  ⟨some [true, false, true, false, false], .move (.s []), none⟩,
  ⟨some [false, true, true, false, false], .move (.s [false]), none⟩,
  ⟨some [true, true, true, false, false], .load (some 2) (.s [false, false, false]), none⟩,
  ⟨some [false, false, false, true, false], .call false (.c (.func 39 [])) [(.s [true, false, true, false, false]), (.s [false, true, true, false, false]), (.s [true, true, true, false, false])], none⟩,
  ⟨some [false, false, true, false, false], .move (.s [false, false, false, true, false]), none⟩,
  ⟨some [true, false, false, true, false], .extract 0 (.s [false, false, true, false, false]), none⟩,
  ⟨some [false, true, false, true, false], .extract 1 (.s [false, false, true, false, false]), none⟩,
  ⟨some [true, true, false, true, false], .extract 2 (.s [false, false, true, false, false]), none⟩,
  ⟨some [true, false, true], .move (.s [true, false, false, true, false]), none⟩,
  ⟨some [false, true, true], .move (.s [false, true, false, true, false]), none⟩,
  ⟨some [true, true, true], .move (.s [true, true, false, true, false]), none⟩])
def c11_o5 : CCode := .trim [[], [false], [false, false, false], [true, false, false], [false, true, false], [true, true, false], [false, false, true], [true, false, true], [false, true, true], [true, true, true]] (.ops [
  ⟨some [false, false, true, true, false], .move (.s []), none⟩,
  ⟨some [true, false, true, true, false], .bin .geq (.s [false, false, true, true, false]) (.c (.int .i64 1)), none⟩,
  ⟨some [false, true, true, true, false], .move (.s [true, false, true, true, false]), none⟩,
  ⟨some [true, true, true, true, false], .move (.s []), some ([false, true, true, true, false], true)⟩,
  ⟨some [false, false, false, false, true], .bin .leq (.s [true, true, true, true, false]) (.c (.int .i64 36)), some ([false, true, true, true, false], true)⟩,
  ⟨some [true, false, false, false, true], .pick (.s [false, true, true, true, false]) (.s [false, false, false, false, true]) (.c (.bool false)), none⟩,
  ⟨some [false, true, false, false, true], .move (.s [true, false, false, false, true]), none⟩,
  ⟨some [true, true, false, false, true], .move (.s []), some ([false, true, false, false, true], true)⟩,
  ⟨some [false, false, true, false, true], .load (some 2) (.s [false, false, false]), some ([false, true, false, false, true], true)⟩,
  ⟨some [true, false, true, false, true], .call false (.c (.func 40 [])) [(.s [true, true, false, false, true]), (.s [false, false, true, false, true])], some ([false, true, false, false, true], true)⟩,
  ⟨some [false, true, true, false, true], .pick (.s [false, true, false, false, true]) (.s [true, false, true, false, true]) (.c (.bool false)), none⟩,
  ⟨some [false, false, false, false], .move (.s [false, true, true, false, true]), none⟩])
def c11_o6 : CCode := .trim [[], [false], [false, false, false], [true, false, false], [false, true, false], [true, true, false], [false, false, true], [true, false, true], [false, true, true], [true, true, true], [false, false, false, false]] (.ops [
  ⟨some [true, true, true, false, true], .move (.s [false, false, false, false]), none⟩,
  ⟨some [false, false, false, true, true], .move (.s [true, false, false]), none⟩,
  ⟨some [true, false, false, true, true], .bin .eql (.s [false, false, false, true, true]) (.c (.int .i64 0)), none⟩,
  ⟨some [false, true, false, true, true], .eqv 0 true (.s [true, true, true, false, true]) (.s [true, false, false, true, true]), none⟩,
  ⟨some [true, true, false, true, true], .move (.s [false, true, false, true, true]), none⟩,
  ⟨some [false, false, true, true, true], .move (.s [false, false, false, false]), some ([true, true, false, true, true], false)⟩,
  ⟨some [true, false, true, true, true], .un .not (.s [false, false, true, true, true]), some ([true, true, false, true, true], false)⟩,
  ⟨some [false, true, true, true, true], .move (.s [true, false, true, true, true]), some ([true, true, false, true, true], false)⟩,
  ⟨some [true, true, true, true, true], .move (.s [true, false, false]), some ([false, true, true, true, true], true)⟩,
  ⟨some [false, false, false, false, false, false], .bin .neq (.s [true, true, true, true, true]) (.c (.int .i64 2)), some ([false, true, true, true, true], true)⟩,
  ⟨some [true, false, false, false, false, false], .pick (.s [false, true, true, true, true]) (.s [false, false, false, false, false, false]) (.c (.bool false)), some ([true, true, false, true, true], false)⟩,
  ⟨some [false, true, false, false, false, false], .pick (.s [true, true, false, true, true]) (.c (.bool true)) (.s [true, false, false, false, false, false]), none⟩])
def c11_o7 : CCode := .trim [] (.ops [
  ⟨some [true, true], .move (.c (.bool false)), none⟩])
def c11_o8 : CCode := .trim [[], [false], [false, false, false], [false, true, false], [true, true, false], [false, false, true], [true, false, true], [false, true, true], [true, true, true], [false, false, false, false]] (.ops [
  ⟨some [true, true, false, false, false, false], .move (.s [false, false, false, false]), none⟩,
  ⟨some [false, false, true, false, false, false], .un .not (.s [true, true, false, false, false, false]), none⟩,
  ⟨some [true, false, true, false, false, false], .move (.s [false, false, true, false, false, false]), none⟩,
  ⟨some [false, true, true, false, false, false], .move (.s []), some ([true, false, true, false, false, false], false)⟩,
  ⟨some [true, true, true, false, false, false], .move (.s [false]), some ([true, false, true, false, false, false], false)⟩,
  ⟨some [false, false, false, true, false, false], .call false (.c (.func 18 [])) [(.s [false, true, true, false, false, false]), (.s [true, true, true, false, false, false])], some ([true, false, true, false, false, false], false)⟩,
  ⟨some [true, false, false, true, false, false], .un .not (.s [false, false, false, true, false, false]), some ([true, false, true, false, false, false], false)⟩,
  ⟨some [false, true, false, true, false, false], .pick (.s [true, false, true, false, false, false]) (.c (.bool true)) (.s [true, false, false, true, false, false]), none⟩])
def c11_o9 : CCode := .trim [[false, true, false], [true, true, false], [false, false, true], [true, false, true], [false, true, true], [true, true, true]] (.ops [
  ⟨some [true, true, false, true, false, false], .load (some 2) (.s [false, true, false]), none⟩,
  ⟨some [false, false, true, true, false, false], .build [.int .i64 0, .int .i64 0] [], none⟩,
  ⟨some [true, false, true, true, false, false], .eqa [.i .i64, .i .i64] false (.s [true, true, false, true, false, false]) (.s [false, false, true, true, false, false]), none⟩,
  ⟨some [false, true, true, true, false, false], .move (.s [true, false, true, true, false, false]), none⟩,
  ⟨some [true, true, true, true, false, false], .load (some 2) (.s [true, true, false]), some ([false, true, true, true, false, false], true)⟩,
  ⟨some [false, false, false, false, true, false], .build [.int .i64 0, .int .i64 0] [], some ([false, true, true, true, false, false], true)⟩,
  ⟨some [true, false, false, false, true, false], .eqa [.i .i64, .i .i64] false (.s [true, true, true, true, false, false]) (.s [false, false, false, false, true, false]), some ([false, true, true, true, false, false], true)⟩,
  ⟨some [false, true, false, false, true, false], .pick (.s [false, true, true, true, false, false]) (.s [true, false, false, false, true, false]) (.c (.bool false)), none⟩,
  ⟨some [true, true, false, false, true, false], .move (.s [false, true, false, false, true, false]), none⟩,
  ⟨some [false, false, true, false, true, false], .move (.s [false, false, true]), some ([true, true, false, false, true, false], true)⟩,
  ⟨some [true, false, true, false, true, false], .bin .eql (.s [false, false, true, false, true, false]) (.c (.int .i64 2)), some ([true, true, false, false, true, false], true)⟩,
  ⟨some [false, true, true, false, true, false], .pick (.s [true, true, false, false, true, false]) (.s [true, false, true, false, true, false]) (.c (.bool false)), none⟩,
  ⟨some [true, true, true, false, true, false], .move (.s [false, true, true, false, true, false]), none⟩,
  ⟨some [false, false, false, true, true, false], .move (.s [true, false, true]), some ([true, true, true, false, true, false], true)⟩,
  ⟨some [true, false, false, true, true, false], .len 1 (.s [false, false, false, true, true, false]), some ([true, true, true, false, true, false], true)⟩,
  ⟨some [false, true, false, true, true, false], .bin .eql (.s [true, false, false, true, true, false]) (.c (.int .i64 0)), some ([true, true, true, false, true, false], true)⟩,
  ⟨some [true, true, false, true, true, false], .pick (.s [true, true, true, false, true, false]) (.s [false, true, false, true, true, false]) (.c (.bool false)), none⟩,
  ⟨some [false, false, true, true, true, false], .move (.s [true, true, false, true, true, false]), none⟩,
  ⟨some [true, false, true, true, true, false], .move (.s [false, true, true]), some ([false, false, true, true, true, false], true)⟩,
  ⟨some [false, true, true, true, true, false], .len 1 (.s [true, false, true, true, true, false]), some ([false, false, true, true, true, false], true)⟩,
  ⟨some [true, true, true, true, true, false], .bin .eql (.s [false, true, true, true, true, false]) (.c (.int .i64 0)), some ([false, false, true, true, true, false], true)⟩,
  ⟨some [false, false, false, false, false, true], .pick (.s [false, false, true, true, true, false]) (.s [true, true, true, true, true, false]) (.c (.bool false)), none⟩,
  ⟨some [true, false, false, false, false, true], .move (.s [false, false, false, false, false, true]), none⟩,
  ⟨some [false, true, false, false, false, true], .move (.s [true, true, true]), some ([true, false, false, false, false, true], true)⟩,
  ⟨some [true, true, false, false, false, true], .bin .eql (.s [false, true, false, false, false, true]) (.c (.int .i64 2)), some ([true, false, false, false, false, true], true)⟩,
  ⟨some [false, false, true, false, false, true], .pick (.s [true, false, false, false, false, true]) (.s [true, true, false, false, false, true]) (.c (.bool false)), none⟩,
  ⟨some [true, false, true, false, false, true], .move (.s [false, false, true, false, false, true]), none⟩,
  ⟨some [false, true, true, false, false, true], .call false (.c (.func 20 [])) [], some ([true, false, true, false, false, true], true)⟩,
  ⟨some [true, true, true, false, false, true], .pick (.s [true, false, true, false, false, true]) (.s [false, true, true, false, false, true]) (.c (.bool false)), none⟩,
  ⟨some [true, true], .move (.s [true, true, true, false, false, true]), none⟩])
def c11_o10 : CCode := .trim [[], [false], [false, false, false], [false, true, false], [true, true, false], [false, false, true], [true, false, true], [false, true, true], [true, true, true]] (.ops [
  ⟨some [false, false, false, true, false, true], .move (.s []), none⟩,
  ⟨some [true, false, false, true, false, true], .move (.s [false]), none⟩,
  ⟨some [false, true, false, true, false, true], .call false (.c (.func 29 [])) [(.s [false, false, false, true, false, true]), (.s [true, false, false, true, false, true])], none⟩,
  ⟨some [true, false, false, false], .move (.s [false, true, false, true, false, true]), none⟩])
def c11_o11 : CCode := .trim [[], [false], [false, false, false], [false, true, false], [true, true, false], [false, false, true], [true, false, true], [false, true, true], [true, true, true], [true, false, false, false]] (.ops [
  ⟨some [false, false, true, true, false, true], .move (.s []), none⟩,
  ⟨some [true, false, true, true, false, true], .move (.s [false]), none⟩,
  ⟨some [false, true, true, true, false, true], .load (some 2) (.s [false, false, false]), none⟩,
  ⟨some [true, true, true, true, false, true], .call false (.c (.func 41 [])) [(.s [false, false, true, true, false, true]), (.s [true, false, true, true, false, true]), (.s [false, true, true, true, false, true])], none⟩,
  ⟨some [true, true, false, true, false, true], .move (.s [true, true, true, true, false, true]), none⟩,
  ⟨some [false, false, false, false, true, true], .extract 0 (.s [true, true, false, true, false, true]), none⟩,
  ⟨some [true, false, false, false, true, true], .extract 1 (.s [true, true, false, true, false, true]), none⟩,
  ⟨some [false, true, false, false], .move (.s [false, false, false, false, true, true]), none⟩,
  ⟨some [true, true, false, false], .move (.s [true, false, false, false, true, true]), none⟩])
def c11_o12 : CCode := .trim [[], [false], [false, false, false], [false, true, false], [true, true, false], [false, false, true], [true, false, true], [false, true, true], [true, true, true], [true, false, false, false], [false, true, false, false], [true, true, false, false]] (.ops [
  ⟨some [true, true, false, false, true, true], .move (.s []), none⟩,
  ⟨some [false, false, true, false, true, true], .move (.s [false]), none⟩,
  ⟨some [true, false, true, false, true, true], .load (some 2) (.s [false, false, false]), none⟩,
  ⟨some [false, true, true, false, true, true], .call false (.c (.func 42 [])) [(.s [true, true, false, false, true, true]), (.s [false, false, true, false, true, true]), (.s [true, false, true, false, true, true])], none⟩,
  ⟨some [false, true, false, false, true, true], .move (.s [false, true, true, false, true, true]), none⟩,
  ⟨some [true, true, true, false, true, true], .extract 0 (.s [false, true, false, false, true, true]), none⟩,
  ⟨some [false, false, false, true, true, true], .extract 1 (.s [false, true, false, false, true, true]), none⟩,
  ⟨some [false, false, true, false], .move (.s [true, true, true, false, true, true]), none⟩,
  ⟨some [true, false, true, false], .move (.s [false, false, false, true, true, true]), none⟩])
def c11_o13 : CCode := .trim [[false, true, false], [true, true, false], [false, false, true], [true, false, true], [false, true, true], [true, true, true], [true, false, false, false], [false, true, false, false], [true, true, false, false], [false, false, true, false], [true, false, true, false]] (.draw 0 [
  ⟨some [true, false, false, true, true, true], .load (some 2) (.s [false, true, false]), none⟩,
  ⟨some [false, true, false, true, true, true], .move (.s [false, true, false, false]), none⟩,
  ⟨some [true, true, false, true, true, true], .move (.s [true, false, false, false]), none⟩,
  ⟨some [false, false, true, true, true, true], .call false (.c (.func 25 [])) [(.s [false, true, false, true, true, true]), (.s [true, true, false, true, true, true])], none⟩,
  ⟨some [true, false, true, true, true, true], .eqa [.i .i64, .i .i64] true (.s [true, false, false, true, true, true]) (.s [false, false, true, true, true, true]), none⟩,
  ⟨some [false, true, true, true, true, true], .move (.s [true, false, true, true, true, true]), none⟩,
  ⟨some [true, true, true, true, true, true], .load (some 2) (.s [true, true, false]), some ([false, true, true, true, true, true], false)⟩,
  ⟨some [false, false, false, false, false, false, false], .move (.s [true, true, false, false]), some ([false, true, true, true, true, true], false)⟩,
  ⟨some [true, false, false, false, false, false, false], .move (.s [true, false, false, false]), some ([false, true, true, true, true, true], false)⟩,
  ⟨some [false, true, false, false, false, false, false], .call false (.c (.func 25 [])) [(.s [false, false, false, false, false, false, false]), (.s [true, false, false, false, false, false, false])], some ([false, true, true, true, true, true], false)⟩,
  ⟨some [true, true, false, false, false, false, false], .eqa [.i .i64, .i .i64] true (.s [true, true, true, true, true, true]) (.s [false, true, false, false, false, false, false]), some ([false, true, true, true, true, true], false)⟩,
  ⟨some [false, false, true, false, false, false, false], .pick (.s [false, true, true, true, true, true]) (.c (.bool true)) (.s [true, true, false, false, false, false, false]), none⟩,
  ⟨some [true, false, true, false, false, false, false], .move (.s [false, false, true, false, false, false, false]), none⟩,
  ⟨some [false, true, true, false, false, false, false], .move (.s [false, false, true]), some ([true, false, true, false, false, false, false], false)⟩,
  ⟨some [true, true, true, false, false, false, false], .bin .neq (.s [false, true, true, false, false, false, false]) (.c (.int .i64 0)), some ([true, false, true, false, false, false, false], false)⟩,
  ⟨some [false, false, false, true, false, false, false], .pick (.s [true, false, true, false, false, false, false]) (.c (.bool true)) (.s [true, true, true, false, false, false, false]), none⟩,
  ⟨some [true, false, false, true, false, false, false], .move (.s [false, false, false, true, false, false, false]), none⟩,
  ⟨some [false, true, false, true, false, false, false], .move (.s [true, true, true]), some ([true, false, false, true, false, false, false], false)⟩,
  ⟨some [true, true, false, true, false, false, false], .bin .neq (.s [false, true, false, true, false, false, false]) (.c (.int .i64 0)), some ([true, false, false, true, false, false, false], false)⟩,
  ⟨some [false, false, true, true, false, false, false], .pick (.s [true, false, false, true, false, false, false]) (.c (.bool true)) (.s [true, true, false, true, false, false, false]), none⟩,
  ⟨some [true, false, true, true, false, false, false], .move (.s [false, false, true, true, false, false, false]), none⟩,
  ⟨some [false, true, true, true, false, false, false], .move (.s [true, false, true]), some ([true, false, true, true, false, false, false], false)⟩,
  ⟨some [true, true, true, true, false, false, false], .len 1 (.s [false, true, true, true, false, false, false]), some ([true, false, true, true, false, false, false], false)⟩,
  ⟨some [false, false, false, false, true, false, false], .move (.s [false, false, true, false]), some ([true, false, true, true, false, false, false], false)⟩,
  ⟨some [true, false, false, false, true, false, false], .len 1 (.s [false, false, false, false, true, false, false]), some ([true, false, true, true, false, false, false], false)⟩,
  ⟨some [false, true, false, false, true, false, false], .bin .neq (.s [true, true, true, true, false, false, false]) (.s [true, false, false, false, true, false, false]), some ([true, false, true, true, false, false, false], false)⟩,
  ⟨some [true, true, false, false, true, false, false], .pick (.s [true, false, true, true, false, false, false]) (.c (.bool true)) (.s [false, true, false, false, true, false, false]), none⟩,
  ⟨some [false, false, true, false, true, false, false], .move (.s [true, true, false, false, true, false, false]), none⟩,
  ⟨some [true, false, true, false, true, false, false], .move (.s [false, true, true]), some ([false, false, true, false, true, false, false], false)⟩,
  ⟨some [false, true, true, false, true, false, false], .len 1 (.s [true, false, true, false, true, false, false]), some ([false, false, true, false, true, false, false], false)⟩,
  ⟨some [true, true, true, false, true, false, false], .move (.s [true, false, true, false]), some ([false, false, true, false, true, false, false], false)⟩,
  ⟨some [false, false, false, true, true, false, false], .len 1 (.s [true, true, true, false, true, false, false]), some ([false, false, true, false, true, false, false], false)⟩,
  ⟨some [true, false, false, true, true, false, false], .bin .neq (.s [false, true, true, false, true, false, false]) (.s [false, false, false, true, true, false, false]), some ([false, false, true, false, true, false, false], false)⟩,
  ⟨some [false, true, false, true, true, false, false], .pick (.s [false, false, true, false, true, false, false]) (.c (.bool true)) (.s [true, false, false, true, true, false, false]), none⟩]
  [(0, 3), (6, 9), (22, 24), (29, 31)] [[], [], [], [1, 2], [0, 1, 2, 3], [0, 1, 2, 3, 4], [0, 1, 2, 3, 4, 5], [0, 1, 2, 3, 4, 5], [0, 1, 2, 3, 4, 5], [0, 1, 2, 3, 4, 5, 7, 8], [0, 1, 2, 3, 4, 5, 6, 7, 8, 9], [0, 1, 2, 3, 4, 5, 6, 7, 8, 9, 10], [0, 1, 2, 3, 4, 5, 6, 7, 8, 9, 10, 11], [0, 1, 2, 3, 4, 5, 6, 7, 8, 9, 10, 11, 12], [0, 1, 2, 3, 4, 5, 6, 7, 8, 9, 10, 11, 12, 13], [0, 1, 2, 3, 4, 5, 6, 7, 8, 9, 10, 11, 12, 13, 14], [0, 1, 2, 3, 4, 5, 6, 7, 8, 9, 10, 11, 12, 13, 14, 15], [0, 1, 2, 3, 4, 5, 6, 7, 8, 9, 10, 11, 12, 13, 14, 15, 16], [0, 1, 2, 3, 4, 5, 6, 7, 8, 9, 10, 11, 12, 13, 14, 15, 16, 17], [0, 1, 2, 3, 4, 5, 6, 7, 8, 9, 10, 11, 12, 13, 14, 15, 16, 17, 18], [0, 1, 2, 3, 4, 5, 6, 7, 8, 9, 10, 11, 12, 13, 14, 15, 16, 17, 18, 19], [0, 1, 2, 3, 4, 5, 6, 7, 8, 9, 10, 11, 12, 13, 14, 15, 16, 17, 18, 19, 20], [0, 1, 2, 3, 4, 5, 6, 7, 8, 9, 10, 11, 12, 13, 14, 15, 16, 17, 18, 19, 20, 21], [0, 1, 2, 3, 4, 5, 6, 7, 8, 9, 10, 11, 12, 13, 14, 15, 16, 17, 18, 19, 20], [0, 1, 2, 3, 4, 5, 6, 7, 8, 9, 10, 11, 12, 13, 14, 15, 16, 17, 18, 19, 20, 23], [0, 1, 2, 3, 4, 5, 6, 7, 8, 9, 10, 11, 12, 13, 14, 15, 16, 17, 18, 19, 20, 21, 22, 23, 24], [0, 1, 2, 3, 4, 5, 6, 7, 8, 9, 10, 11, 12, 13, 14, 15, 16, 17, 18, 19, 20, 21, 22, 23, 24, 25], [0, 1, 2, 3, 4, 5, 6, 7, 8, 9, 10, 11, 12, 13, 14, 15, 16, 17, 18, 19, 20, 21, 22, 23, 24, 25, 26], [0, 1, 2, 3, 4, 5, 6, 7, 8, 9, 10, 11, 12, 13, 14, 15, 16, 17, 18, 19, 20, 21, 22, 23, 24, 25, 26, 27], [0, 1, 2, 3, 4, 5, 6, 7, 8, 9, 10, 11, 12, 13, 14, 15, 16, 17, 18, 19, 20, 21, 22, 23, 24, 25, 26, 27, 28], [0, 1, 2, 3, 4, 5, 6, 7, 8, 9, 10, 11, 12, 13, 14, 15, 16, 17, 18, 19, 20, 21, 22, 23, 24, 25, 26, 27], [0, 1, 2, 3, 4, 5, 6, 7, 8, 9, 10, 11, 12, 13, 14, 15, 16, 17, 18, 19, 20, 21, 22, 23, 24, 25, 26, 27, 30], [0, 1, 2, 3, 4, 5, 6, 7, 8, 9, 10, 11, 12, 13, 14, 15, 16, 17, 18, 19, 20, 21, 22, 23, 24, 25, 26, 27, 28, 29, 30, 31], [0, 1, 2, 3, 4, 5, 6, 7, 8, 9, 10, 11, 12, 13, 14, 15, 16, 17, 18, 19, 20, 21, 22, 23, 24, 25, 26, 27, 28, 29, 30, 31, 32]])
def c11_o14 : CCode := .trim [] (.ops [
  ⟨some [true, true], .move (.c (.bool false)), none⟩])
def c11_o15 : CCode := .trim [[true, false, true], [false, true, true], [true, false, false, false], [false, false, true, false], [true, false, true, false]] (.ops [
  ⟨some [false, true, true, false], .move (.c (.int .i64 0)), none⟩])
def c11_o16 : CCode := .trim [[true, false, true], [false, true, true], [true, false, false, false], [false, false, true, false], [true, false, true, false], [false, true, true, false]] (.ops [
  ⟨some [true, true, false, true, true, false, false], .move (.s [false, true, true, false]), none⟩,
  ⟨some [false, false, true, true, true, false, false], .move (.s [false, false, true, false]), none⟩,
  ⟨some [true, false, true, true, true, false, false], .len 1 (.s [false, false, true, true, true, false, false]), none⟩,
  ⟨some [false, true, true, true, true, false, false], .bin .lss (.s [true, true, false, true, true, false, false]) (.s [true, false, true, true, true, false, false]), none⟩])
def c11_o17 : CCode := .trim [[true, false, true], [false, true, true], [true, false, false, false], [false, false, true, false], [true, false, true, false], [false, true, true, false]] (.draw 0 [
  ⟨some [true, false, false, false, false, true, false], .move (.s [true, false, true]), none⟩,
  ⟨some [false, true, false, false, false, true, false], .move (.s [false, true, true, false]), none⟩,
  ⟨some [true, true, false, false, false, true, false], .idxSl 2 (.s [true, false, false, false, false, true, false]) (.s [false, true, false, false, false, true, false]), none⟩,
  ⟨some [false, false, true, false, false, true, false], .load (some 2) (.s [true, true, false, false, false, true, false]), none⟩,
  ⟨some [true, false, true, false, false, true, false], .move (.s [false, false, true, false]), none⟩,
  ⟨some [false, true, true, false, false, true, false], .move (.s [false, true, true, false]), none⟩,
  ⟨some [true, true, true, false, false, true, false], .idxSl 1 (.s [true, false, true, false, false, true, false]) (.s [false, true, true, false, false, true, false]), none⟩,
  ⟨some [false, false, false, true, false, true, false], .load none (.s [true, true, true, false, false, true, false]), none⟩,
  ⟨some [true, false, false, true, false, true, false], .move (.s [true, false, false, false]), none⟩,
  ⟨some [false, true, false, true, false, true, false], .call false (.c (.func 25 [])) [(.s [false, false, false, true, false, true, false]), (.s [true, false, false, true, false, true, false])], none⟩,
  ⟨some [true, true, false, true, false, true, false], .eqa [.i .i64, .i .i64] true (.s [false, false, true, false, false, true, false]) (.s [false, true, false, true, false, true, false]), none⟩,
  ⟨some [false, false, true, true, false, true, false], .move (.s [true, true, false, true, false, true, false]), none⟩,
  ⟨some [true, false, true, true, false, true, false], .move (.s [false, true, true]), some ([false, false, true, true, false, true, false], false)⟩,
  ⟨some [false, true, true, true, false, true, false], .move (.s [false, true, true, false]), some ([false, false, true, true, false, true, false], false)⟩,
  ⟨some [true, true, true, true, false, true, false], .idxSl 2 (.s [true, false, true, true, false, true, false]) (.s [false, true, true, true, false, true, false]), some ([false, false, true, true, false, true, false], false)⟩,
  ⟨some [false, false, false, false, true, true, false], .load (some 2) (.s [true, true, true, true, false, true, false]), some ([false, false, true, true, false, true, false], false)⟩,
  ⟨some [true, false, false, false, true, true, false], .move (.s [true, false, true, false]), some ([false, false, true, true, false, true, false], false)⟩,
  ⟨some [false, true, false, false, true, true, false], .move (.s [false, true, true, false]), some ([false, false, true, true, false, true, false], false)⟩,
  ⟨some [true, true, false, false, true, true, false], .idxSl 1 (.s [true, false, false, false, true, true, false]) (.s [false, true, false, false, true, true, false]), some ([false, false, true, true, false, true, false], false)⟩,
  ⟨some [false, false, true, false, true, true, false], .load none (.s [true, true, false, false, true, true, false]), some ([false, false, true, true, false, true, false], false)⟩,
  ⟨some [true, false, true, false, true, true, false], .move (.s [true, false, false, false]), some ([false, false, true, true, false, true, false], false)⟩,
  ⟨some [false, true, true, false, true, true, false], .call false (.c (.func 25 [])) [(.s [false, false, true, false, true, true, false]), (.s [true, false, true, false, true, true, false])], some ([false, false, true, true, false, true, false], false)⟩,
  ⟨some [true, true, true, false, true, true, false], .eqa [.i .i64, .i .i64] true (.s [false, false, false, false, true, true, false]) (.s [false, true, true, false, true, true, false]), some ([false, false, true, true, false, true, false], false)⟩,
  ⟨some [false, false, false, true, true, true, false], .pick (.s [false, false, true, true, false, true, false]) (.c (.bool true)) (.s [true, true, true, false, true, true, false]), none⟩]
  [(3, 7), (3, 9), (15, 19), (15, 21)] [[], [], [0, 1], [0, 1, 2], [], [], [4, 5], [4, 5, 6], [], [4, 5, 6, 7, 8], [0, 1, 2, 3, 4, 5, 6, 7, 8, 9], [0, 1, 2, 3, 4, 5, 6, 7, 8, 9, 10], [0, 1, 2, 3, 4, 5, 6, 7, 8, 9, 10, 11], [0, 1, 2, 3, 4, 5, 6, 7, 8, 9, 10, 11], [0, 1, 2, 3, 4, 5, 6, 7, 8, 9, 10, 11, 12, 13], [0, 1, 2, 3, 4, 5, 6, 7, 8, 9, 10, 11, 12, 13, 14], [0, 1, 2, 3, 4, 5, 6, 7, 8, 9, 10, 11], [0, 1, 2, 3, 4, 5, 6, 7, 8, 9, 10, 11], [0, 1, 2, 3, 4, 5, 6, 7, 8, 9, 10, 11, 16, 17], [0, 1, 2, 3, 4, 5, 6, 7, 8, 9, 10, 11, 16, 17, 18], [0, 1, 2, 3, 4, 5, 6, 7, 8, 9, 10, 11], [0, 1, 2, 3, 4, 5, 6, 7, 8, 9, 10, 11, 16, 17, 18, 19, 20], [0, 1, 2, 3, 4, 5, 6, 7, 8, 9, 10, 11, 12, 13, 14, 15, 16, 17, 18, 19, 20, 21], [0, 1, 2, 3, 4, 5, 6, 7, 8, 9, 10, 11, 12, 13, 14, 15, 16, 17, 18, 19, 20, 21, 22]])
def c11_o18 : CCode := .trim [] (.ops [
  ⟨some [true, true], .move (.c (.bool false)), none⟩])
def c11_o19 : CCode := .trim [[true, false, true], [false, true, true], [true, false, false, false], [false, false, true, false], [true, false, true, false], [false, true, true, false]] (.ops [
  ⟨some [true, true, true, true, true, false, false], .move (.s [false, true, true, false]), none⟩,
  ⟨some [false, false, false, false, false, true, false], .bin .add (.s [true, true, true, true, true, false, false]) (.c (.int .i64 1)), none⟩,
  ⟨some [false, true, true, false], .move (.s [false, false, false, false, false, true, false]), none⟩])
def c11_b0 : CCode := (.seq (.seq c11_o16
 (.cond (.s [false, true, true, true, true, false, false]) .skip (.exit 0)))
 (.seq (.block 1 (.seq c11_o17
 (.cond (.s [false, false, false, true, true, true, false]) (.seq c11_o18
 .ret) .skip)))
 c11_o19))
def c11_l0 : CCode := .loop [[true, false, true], [false, true, true], [true, false, false, false], [false, false, true, false], [true, false, true, false], [false, true, true, false]] c11_b0
def c11_o20 : CCode := .trim [] (.ops [
  ⟨some [true, false, false, true, true, true, false], .call false (.c (.func 20 [])) [], none⟩,
  ⟨some [true, true], .move (.s [true, false, false, true, true, true, false]), none⟩])
def c11 : CFunc := { params := [[], [false], [true]], results := [.slot [true, true]], shared := false, body := (.seq c11_o0
 (.seq c11_o1
 (.seq c11_o2
 (.seq c11_o3
 (.seq c11_o4
 (.seq c11_o5
 (.seq (.seq c11_o6
 (.cond (.s [false, true, false, false, false, false]) (.seq c11_o7
 .ret) .skip))
 (.seq (.seq c11_o8
 (.cond (.s [false, true, false, true, false, false]) (.seq c11_o9
 .ret) .skip))
 (.seq c11_o10
 (.seq c11_o11
 (.seq c11_o12
 (.seq (.seq c11_o13
 (.cond (.s [false, true, false, true, true, false, false]) (.seq c11_o14
 .ret) .skip))
 (.seq (.seq c11_o15
 (.block 0 c11_l0))
 (.seq c11_o20
 .ret)))))))))))))) }
-- numnah/numnahlaw05.SampleOwn
-- c12_o0: 0=[] 1=[f] 2=[t]
-- c12_o1: 1=[f] 2=[t] 3=[f, f]
-- c12_o2: 1=[f] 2=[t] 7=[f, f, f] 8=[t, f, f] 9=[f, t, f]
-- c12_o3: 7=[f, f, f] 8=[t, f, f] 9=[f, t, f] 10=[t, t, f]
-- c12_o4: 7=[f, f, f] 8=[t, f, f] 9=[f, t, f] 10=[t, t, f] 11=[f, f, t]
-- c12_o5: 7=[f, f, f] 8=[t, f, f] 9=[f, t, f] 10=[t, t, f] 11=[f, f, t]
-- c12_o6: 7=[f, f, f] 8=[t, f, f] 9=[f, t, f] 10=[t, t, f] 11=[f, f, t]
-- c12_o7: 7=[f, f, f] 8=[t, f, f] 9=[f, t, f] 10=[t, t, f] 11=[f, f, t]
-- c12_o8: 7=[f, f, f] 8=[t, f, f] 9=[f, t, f] 10=[t, t, f] 11=[f, f, t] 12=[t, f, t] 13=[f, t, t]
-- c12_o9: 7=[f, f, f] 8=[t, f, f] 9=[f, t, f] 10=[t, t, f] 11=[f, f, t] 12=[t, f, t] 13=[f, t, t] 14=[t, t, t]
-- c12_o10: 7=[f, f, f] 8=[t, f, f] 9=[f, t, f] 10=[t, t, f] 11=[f, f, t] 12=[t, f, t] 13=[f, t, t] 14=[t, t, t]
-- c12_o11: 7=[f, f, f] 8=[t, f, f] 9=[f, t, f] 10=[t, t, f] 11=[f, f, t] 12=[t, f, t] 13=[f, t, t] 14=[t, t, t]
-- c12_l0: live slots [7, 8, 9, 10, 11, 12, 13, 14]
-- c12_o12: 7=[f, f, f] 8=[t, f, f] 9=[f, t, f] 10=[t, t, f] 11=[f, f, t] 12=[t, f, t] 13=[f, t, t]
-- c12_o13: 7=[f, f, f] 8=[t, f, f] 9=[f, t, f] 10=[t, t, f] 11=[f, f, t] 12=[t, f, t] 13=[f, t, t] 15=[f, f, f, f]
-- c12_o14: 7=[f, f, f] 8=[t, f, f] 9=[f, t, f] 10=[t, t, f] 11=[f, f, t] 12=[t, f, t] 13=[f, t, t] 15=[f, f, f, f]
-- c12_o15: 7=[f, f, f] 8=[t, f, f] 9=[f, t, f] 10=[t, t, f] 11=[f, f, t] 12=[t, f, t] 13=[f, t, t] 15=[f, f, f, f]
-- c12_l1: live slots [7, 8, 9, 10, 11, 12, 13, 15]
-- c12_o16: 7=[f, f, f] 8=[t, f, f] 9=[f, t, f] 10=[t, t, f] 11=[f, f, t] 13=[f, t, t]
-- c12_o17: 8=[t, f, f] 9=[f, t, f] 10=[t, t, f] 11=[f, f, t] 13=[f, t, t] 16=[t, f, f, f] 17=[f, t, f, f]
-- c12_o18: 10=[t, t, f] 11=[f, f, t] 13=[f, t, t] 16=[t, f, f, f] 17=[f, t, f, f] 18=[t, t, f, f]
def c12_o0 : CCode := .trim [[], [false], [true]] (.ops [
  ⟨some [false, false], .box none (.s []), none⟩,
  ⟨some [true, true], .move (.c (.bool false)), none⟩])
def c12_o1 : CCode := .trim [[false], [true], [false, false]] (.ops [
  ⟨some [true, false, true, false], .load (some 3) (.s [false, false]), none⟩,
  ⟨some [false, true, true, false], .call false (.c (.func 22 [])) [(.s [true, false, true, false])], none⟩,
  ⟨some [false, false, true, false], .move (.s [false, true, true, false]), none⟩,
  ⟨some [true, true, true, false], .extract 0 (.s [false, false, true, false]), none⟩,
  ⟨some [false, false, false, true], .extract 1 (.s [false, false, true, false]), none⟩,
  ⟨some [true, false, false, true], .extract 2 (.s [false, false, true, false]), none⟩,
  ⟨some [false, false, false], .move (.s [true, true, true, false]), none⟩,
  ⟨some [true, false, false], .move (.s [false, false, false, true]), none⟩,
  ⟨some [false, true, false], .move (.s [true, false, false, true]), none⟩])
def c12_o2 : CCode := .trim [[false], [true], [false, false, false], [true, false, false], [false, true, false]] (.ops [
  ⟨some [false, true, false, true], .move (.s [false, false, false]), none⟩,
  ⟨some [true, true, false, true], .move (.s [false]), none⟩,
  ⟨some [false, false, true, true], .move (.s [true]), none⟩,
  ⟨some [true, false, true, true], .call false (.c (.func 43 [])) [(.s [false, true, false, true]), (.s [true, true, false, true]), (.s [false, false, true, true])], none⟩,
  ⟨some [true, true, false], .alloc none [.nils, .nils], none⟩,
  ⟨none, .store 2 (.s [true, true, false]) (.s [true, false, true, true]), none⟩])
def c12_o3 : CCode := .trim [[false, false, false], [true, false, false], [false, true, false], [true, true, false]] (.ops [
  ⟨some [false, true, true, true], .load (some 2) (.s [true, true, false]), none⟩,
  ⟨some [true, true, true, true], .call false (.c (.func 38 [])) [(.s [false, true, true, true])], none⟩,
  ⟨some [false, false, true], .alloc none [.nils, .nils], none⟩,
  ⟨none, .store 2 (.s [false, false, true]) (.s [true, true, true, true]), none⟩])
def c12_o4 : CCode := .trim [[false, false, false], [true, false, false], [false, true, false], [true, true, false], [false, false, true]] (.ops [
  ⟨some [false, false, false, false, false], .move (.s [false, false, false]), none⟩,
  ⟨some [true, false, false, false, false], .load (some 2) (.s [true, true, false]), none⟩,
  ⟨some [false, true, false, false, false], .call false (.c (.func 34 [])) [(.s [false, false, false, false, false]), (.c (.int .i64 0)), (.s [true, false, false, false, false])], none⟩])
def c12_o5 : CCode := .trim [[false, false, false], [true, false, false], [false, true, false], [true, true, false], [false, false, true]] (.ops [
  ⟨some [true, true, false, false, false], .move (.s [false, false, false]), none⟩,
  ⟨some [false, false, true, false, false], .move (.s [false, false, false]), none⟩,
  ⟨some [true, false, true, false, false], .load (some 2) (.s [true, true, false]), none⟩,
  ⟨some [false, true, true, false, false], .call false (.c (.func 39 [])) [(.s [true, true, false, false, false]), (.s [false, false, true, false, false]), (.s [true, false, true, false, false])], none⟩])
def c12_o6 : CCode := .trim [[false, false, false], [true, false, false], [false, true, false], [true, true, false], [false, false, true]] (.ops [
  ⟨some [true, true, true, false, false], .move (.s [false, false, false]), none⟩,
  ⟨some [false, false, false, true, false], .load (some 2) (.s [true, true, false]), none⟩,
  ⟨some [true, false, false, true, false], .call false (.c (.func 33 [])) [(.s [true, true, true, false, false]), (.s [false, false, false, true, false])], none⟩])
def c12_o7 : CCode := .trim [[false, false, false], [true, false, false], [false, true, false], [true, true, false], [false, false, true]] (.ops [
  ⟨some [true, true, false, true, false], .move (.s [false, false, false]), none⟩,
  ⟨some [false, false, true, true, false], .move (.s [true, false, false]), none⟩,
  ⟨some [true, false, true, true, false], .move (.s [false, true, false]), none⟩,
  ⟨some [false, true, true, true, false], .call false (.c (.func 32 [])) [(.s [true, true, false, true, false]), (.s [false, false, true, true, false]), (.s [true, false, true, true, false])], none⟩,
  ⟨some [false, true, false, true, false], .move (.s [false, true, true, true, false]), none⟩,
  ⟨some [true, true, true, true, false], .extract 0 (.s [false, true, false, true, false]), none⟩,
  ⟨some [false, false, false, false, true], .extract 1 (.s [false, true, false, true, false]), none⟩,
  ⟨some [true, false, true], .alloc none [.nils, .nils], none⟩,
  ⟨none, .store 2 (.s [true, false, true]) (.s [true, true, true, true, false]), none⟩,
  ⟨some [false, true, true], .move (.s [false, false, false, false, true]), none⟩])
def c12_o8 : CCode := .trim [[false, false, false], [true, false, false], [false, true, false], [true, true, false], [false, false, true], [true, false, true], [false, true, true]] (.ops [
  ⟨some [true, true, true], .move (.c (.int .i64 0)), none⟩])
def c12_o9 : CCode := .trim [[false, false, false], [true, false, false], [false, true, false], [true, true, false], [false, false, true], [true, false, true], [false, true, true], [true, true, true]] (.ops [
  ⟨some [true, false, false, false, true], .move (.s [true, true, true]), none⟩,
  ⟨some [false, true, false, false, true], .fieldAddr 0 (.s [true, false, true]), none⟩,
  ⟨some [true, true, false, false, true], .load none (.s [false, true, false, false, true]), none⟩,
  ⟨some [false, false, true, false, true], .len 1 (.s [true, true, false, false, true]), none⟩,
  ⟨some [true, false, true, false, true], .bin .lss (.s [true, false, false, false, true]) (.s [false, false, true, false, true]), none⟩])
def c12_o10 : CCode := .trim [[false, false, false], [true, false, false], [false, true, false], [true, true, false], [false, false, true], [true, false, true], [false, true, true], [true, true, true]] (.ops [
  ⟨some [false, false, false, true, true], .fieldAddr 0 (.s [true, false, true]), none⟩,
  ⟨some [true, false, false, true, true], .load none (.s [false, false, false, true, true]), none⟩,
  ⟨some [false, true, false, true, true], .move (.s [true, true, true]), none⟩,
  ⟨some [true, true, false, true, true], .idxSl 1 (.s [true, false, false, true, true]) (.s [false, true, false, true, true]), none⟩,
  ⟨none, .store 1 (.s [true, true, false, true, true]) (.c (.int .i64 7)), none⟩])
def c12_o11 : CCode := .trim [[false, false, false], [true, false, false], [false, true, false], [true, true, false], [false, false, true], [true, false, true], [false, true, true], [true, true, true]] (.ops [
  ⟨some [false, true, true, false, true], .move (.s [true, true, true]), none⟩,
  ⟨some [true, true, true, false, true], .bin .add (.s [false, true, true, false, true]) (.c (.int .i64 1)), none⟩,
  ⟨some [true, true, true], .move (.s [true, true, true, false, true]), none⟩])
def c12_b0 : CCode := (.seq (.seq c12_o9
 (.cond (.s [true, false, true, false, true]) .skip (.exit 0)))
 (.seq (.block 1 c12_o10)
 c12_o11))
def c12_l0 : CCode := .loop [[false, false, false], [true, false, false], [false, true, false], [true, true, false], [false, false, true], [true, false, true], [false, true, true], [true, true, true]] c12_b0
def c12_o12 : CCode := .trim [[false, false, false], [true, false, false], [false, true, false], [true, true, false], [false, false, true], [true, false, true], [false, true, true]] (.ops [
  ⟨some [false, false, false, false], .move (.c (.int .i64 0)), none⟩])
def c12_o13 : CCode := .trim [[false, false, false], [true, false, false], [false, true, false], [true, true, false], [false, false, true], [true, false, true], [false, true, true], [false, false, false, false]] (.ops [
  ⟨some [false, false, true, true, true], .move (.s [false, false, false, false]), none⟩,
  ⟨some [true, false, true, true, true], .fieldAddr 1 (.s [true, false, true]), none⟩,
  ⟨some [false, true, true, true, true], .load none (.s [true, false, true, true, true]), none⟩,
  ⟨some [true, true, true, true, true], .len 1 (.s [false, true, true, true, true]), none⟩,
  ⟨some [false, false, false, false, false, false], .bin .lss (.s [false, false, true, true, true]) (.s [true, true, true, true, true]), none⟩])
def c12_o14 : CCode := .trim [[false, false, false], [true, false, false], [false, true, false], [true, true, false], [false, false, true], [true, false, true], [false, true, true], [false, false, false, false]] (.ops [
  ⟨some [true, true, false, false, false, false], .fieldAddr 1 (.s [true, false, true]), none⟩,
  ⟨some [false, false, true, false, false, false], .load none (.s [true, true, false, false, false, false]), none⟩,
  ⟨some [true, false, true, false, false, false], .move (.s [false, false, false, false]), none⟩,
  ⟨some [false, true, true, false, false, false], .idxSl 1 (.s [false, false, true, false, false, false]) (.s [true, false, true, false, false, false]), none⟩,
  ⟨none, .store 1 (.s [false, true, true, false, false, false]) (.c (.int .i64 (-7))), none⟩])
def c12_o15 : CCode := .trim [[false, false, false], [true, false, false], [false, true, false], [true, true, false], [false, false, true], [true, false, true], [false, true, true], [false, false, false, false]] (.ops [
  ⟨some [true, false, false, false, false, false], .move (.s [false, false, false, false]), none⟩,
  ⟨some [false, true, false, false, false, false], .bin .add (.s [true, false, false, false, false, false]) (.c (.int .i64 1)), none⟩,
  ⟨some [false, false, false, false], .move (.s [false, true, false, false, false, false]), none⟩])
def c12_b1 : CCode := (.seq (.seq c12_o13
 (.cond (.s [false, false, false, false, false, false]) .skip (.exit 2)))
 (.seq (.block 3 c12_o14)
 c12_o15))
def c12_l1 : CCode := .loop [[false, false, false], [true, false, false], [false, true, false], [true, true, false], [false, false, true], [true, false, true], [false, true, true], [false, false, false, false]] c12_b1
def c12_o16 : CCode := .trim [[false, false, false], [true, false, false], [false, true, false], [true, true, false], [false, false, true], [false, true, true]] (.ops [
  ⟨some [false, false, false, true, false, false], .move (.s [false, false, false]), none⟩,
  ⟨some [true, false, false, true, false, false], .move (.s [true, false, false]), none⟩,
  ⟨some [false, true, false, true, false, false], .move (.s [false, true, false]), none⟩,
  ⟨some [true, true, false, true, false, false], .call false (.c (.func 32 [])) [(.s [false, false, false, true, false, false]), (.s [true, false, false, true, false, false]), (.s [false, true, false, true, false, false])], none⟩,
  ⟨some [true, true, true, false, false, false], .move (.s [true, true, false, true, false, false]), none⟩,
  ⟨some [false, false, true, true, false, false], .extract 0 (.s [true, true, true, false, false, false]), none⟩,
  ⟨some [true, false, true, true, false, false], .extract 1 (.s [true, true, true, false, false, false]), none⟩,
  ⟨some [true, false, false, false], .alloc none [.nils, .nils], none⟩,
  ⟨none, .store 2 (.s [true, false, false, false]) (.s [false, false, true, true, false, false]), none⟩,
  ⟨some [false, true, false, false], .move (.s [true, false, true, true, false, false]), none⟩])
def c12_o17 : CCode := .trim [[true, false, false], [false, true, false], [true, true, false], [false, false, true], [false, true, true], [true, false, false, false], [false, true, false, false]] (.ops [
  ⟨some [false, true, true, true, false, false], .move (.s [true, false, false]), none⟩,
  ⟨some [true, true, true, true, false, false], .move (.s [false, true, false]), none⟩,
  ⟨some [false, false, false, false, true, false], .call false (.c (.func 44 [])) [(.s [false, true, true, true, false, false]), (.s [true, true, true, true, false, false])], none⟩,
  ⟨some [true, true, false, false], .alloc none [.nils, .nils], none⟩,
  ⟨none, .store 2 (.s [true, true, false, false]) (.s [false, false, false, false, true, false]), none⟩])
def c12_o18 : CCode := .trim [[true, true, false], [false, false, true], [false, true, true], [true, false, false, false], [false, true, false, false], [true, true, false, false]] (.ops [
  ⟨some [true, false, false, false, true, false], .move (.s [false, true, true]), none⟩,
  ⟨some [false, true, false, false, true, false], .bin .eql (.s [true, false, false, false, true, false]) (.c (.int .i64 0)), none⟩,
  ⟨some [true, true, false, false, true, false], .move (.s [false, true, false, false, true, false]), none⟩,
  ⟨some [false, false, true, false, true, false], .move (.s [false, true, false, false]), some ([true, true, false, false, true, false], true)⟩,
  ⟨some [true, false, true, false, true, false], .bin .eql (.s [false, false, true, false, true, false]) (.c (.int .i64 0)), some ([true, true, false, false, true, false], true)⟩,
  ⟨some [false, true, true, false, true, false], .pick (.s [true, true, false, false, true, false]) (.s [true, false, true, false, true, false]) (.c (.bool false)), none⟩,
  ⟨some [true, true, true, false, true, false], .move (.s [false, true, true, false, true, false]), none⟩,
  ⟨some [false, false, false, true, true, false], .fieldAddr 0 (.s [true, true, false]), some ([true, true, true, false, true, false], true)⟩,
  ⟨some [true, false, false, true, true, false], .load none (.s [false, false, false, true, true, false]), some ([true, true, true, false, true, false], true)⟩,
  ⟨some [false, true, false, true, true, false], .fieldAddr 0 (.s [false, false, true]), some ([true, true, true, false, true, false], true)⟩,
  ⟨some [true, true, false, true, true, false], .load none (.s [false, true, false, true, true, false]), some ([true, true, true, false, true, false], true)⟩,
  ⟨some [false, false, true, true, true, false], .call false (.c (.func 45 [])) [(.s [true, false, false, true, true, false]), (.s [true, true, false, true, true, false])], some ([true, true, true, false, true, false], true)⟩,
  ⟨some [true, false, true, true, true, false], .pick (.s [true, true, true, false, true, false]) (.s [false, false, true, true, true, false]) (.c (.bool false)), none⟩,
  ⟨some [false, true, true, true, true, false], .move (.s [true, false, true, true, true, false]), none⟩,
  ⟨some [true, true, true, true, true, false], .fieldAddr 1 (.s [true, true, false]), some ([false, true, true, true, true, false], true)⟩,
  ⟨some [false, false, false, false, false, true], .load none (.s [true, true, true, true, true, false]), some ([false, true, true, true, true, false], true)⟩,
  ⟨some [true, false, false, false, false, true], .fieldAddr 1 (.s [false, false, true]), some ([false, true, true, true, true, false], true)⟩,
  ⟨some [false, true, false, false, false, true], .load none (.s [true, false, false, false, false, true]), some ([false, true, true, true, true, false], true)⟩,
  ⟨some [true, true, false, false, false, true], .call false (.c (.func 45 [])) [(.s [false, false, false, false, false, true]), (.s [false, true, false, false, false, true])], some ([false, true, true, true, true, false], true)⟩,
  ⟨some [false, false, true, false, false, true], .pick (.s [false, true, true, true, true, false]) (.s [true, true, false, false, false, true]) (.c (.bool false)), none⟩,
  ⟨some [true, false, true, false, false, true], .move (.s [false, false, true, false, false, true]), none⟩,
  ⟨some [false, true, true, false, false, true], .fieldAddr 0 (.s [true, false, false, false]), some ([true, false, true, false, false, true], true)⟩,
  ⟨some [true, true, true, false, false, true], .load none (.s [false, true, true, false, false, true]), some ([true, false, true, false, false, true], true)⟩,
  ⟨some [false, false, false, true, false, true], .fieldAddr 0 (.s [true, true, false, false]), some ([true, false, true, false, false, true], true)⟩,
  ⟨some [true, false, false, true, false, true], .load none (.s [false, false, false, true, false, true]), some ([true, false, true, false, false, true], true)⟩,
  ⟨some [false, true, false, true, false, true], .call false (.c (.func 45 [])) [(.s [true, true, true, false, false, true]), (.s [true, false, false, true, false, true])], some ([true, false, true, false, false, true], true)⟩,
  ⟨some [true, true, false, true, false, true], .pick (.s [true, false, true, false, false, true]) (.s [false, true, false, true, false, true]) (.c (.bool false)), none⟩,
  ⟨some [false, false, true, true, false, true], .move (.s [true, true, false, true, false, true]), none⟩,
  ⟨some [true, false, true, true, false, true], .fieldAddr 1 (.s [true, false, false, false]), some ([false, false, true, true, false, true], true)⟩,
  ⟨some [false, true, true, true, false, true], .load none (.s [true, false, true, true, false, true]), some ([false, false, true, true, false, true], true)⟩,
  ⟨some [true, true, true, true, false, true], .fieldAddr 1 (.s [true, true, false, false]), some ([false, false, true, true, false, true], true)⟩,
  ⟨some [false, false, false, false, true, true], .load none (.s [true, true, true, true, false, true]), some ([false, false, true, true, false, true], true)⟩,
  ⟨some [true, false, false, false, true, true], .call false (.c (.func 45 [])) [(.s [false, true, true, true, false, true]), (.s [false, false, false, false, true, true])], some ([false, false, true, true, false, true], true)⟩,
  ⟨some [false, true, false, false, true, true], .pick (.s [false, false, true, true, false, true]) (.s [true, false, false, false, true, true]) (.c (.bool false)), none⟩,
  ⟨some [true, true, false, false, true, true], .move (.s [false, true, false, false, true, true]), none⟩,
  ⟨some [false, false, true, false, true, true], .call false (.c (.func 20 [])) [], some ([true, true, false, false, true, true], true)⟩,
  ⟨some [true, false, true, false, true, true], .pick (.s [true, true, false, false, true, true]) (.s [false, false, true, false, true, true]) (.c (.bool false)), none⟩,
  ⟨some [true, true], .move (.s [true, false, true, false, true, true]), none⟩])
def c12 : CFunc := { params := [[], [false], [true]], results := [.slot [true, true]], shared := false, body := (.seq c12_o0
 (.seq c12_o1
 (.seq c12_o2
 (.seq c12_o3
 (.seq c12_o4
 (.seq c12_o5
 (.seq c12_o6
 (.seq c12_o7
 (.seq (.seq c12_o8
 (.block 0 c12_l0))
 (.seq (.seq c12_o12
 (.block 2 c12_l1))
 (.seq c12_o16
 (.seq c12_o17
 (.seq c12_o18
 .ret))))))))))))) }

end Go.Proofs.Ytlkgpcfhpeilhaa.Ev
