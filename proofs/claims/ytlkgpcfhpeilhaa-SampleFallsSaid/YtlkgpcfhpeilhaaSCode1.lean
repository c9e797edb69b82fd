/-
  The code of the program's functions as the evaluator takes it, printed by wip/tool/emit.py. SCheck ties each to the translation. No condition.
-/
import Derived.Test.YtlkgpcfhpeilhaaEv
namespace Go.Proofs.Ytlkgpcfhpeilhaa.Ev
open Go Go.AEv

-- numnah/numnahlaw05.SampleAdds
-- c13_o0: 0=[] 1=[f] 2=[t]
-- c13_o1: 1=[f] 2=[t] 3=[f, f]
-- c13_o2: 1=[f] 2=[t] 3=[f, f] 7=[f, f, f]
-- c13_o3: 1=[f] 2=[t] 7=[f, f, f] 8=[t, f, f]
-- c13_o4: 7=[f, f, f] 8=[t, f, f] 9=[f, t, f]
-- c13_o5: 7=[f, f, f] 8=[t, f, f] 9=[f, t, f] 10=[t, t, f]
-- c13_o6: 7=[f, f, f] 8=[t, f, f] 9=[f, t, f] 10=[t, t, f] 11=[f, f, t] 12=[t, f, t] 13=[f, t, t]
-- c13_o7: 7=[f, f, f] 8=[t, f, f] 9=[f, t, f] 10=[t, t, f] 11=[f, f, t] 12=[t, f, t] 13=[f, t, t] 14=[t, t, t] 15=[f, f, f, f] 16=[t, f, f, f]
-- c13_o8: 9=[f, t, f] 10=[t, t, f] 11=[f, f, t] 12=[t, f, t] 13=[f, t, t] 14=[t, t, t] 15=[f, f, f, f] 16=[t, f, f, f] 17=[f, t, f, f] 18=[t, t, f, f]
-- c13_o9: 
-- c13_o10: 11=[f, f, t] 12=[t, f, t] 14=[t, t, t] 15=[f, f, f, f] 17=[f, t, f, f]
-- c13_o11: 11=[f, f, t] 12=[t, f, t] 14=[t, t, t] 15=[f, f, f, f] 17=[f, t, f, f] 19=[f, f, t, f] 20=[t, f, t, f] 21=[f, t, t, f]
-- c13_o12: 11=[f, f, t] 12=[t, f, t] 14=[t, t, t] 15=[f, f, f, f] 17=[f, t, f, f] 19=[f, f, t, f] 20=[t, f, t, f] 21=[f, t, t, f] 22=[t, t, t, f]
-- c13_o13: 11=[f, f, t] 12=[t, f, t] 14=[t, t, t] 15=[f, f, f, f] 17=[f, t, f, f] 19=[f, f, t, f] 20=[t, f, t, f] 21=[f, t, t, f] 22=[t, t, t, f]
-- c13_o14: 
-- c13_o15: 11=[f, f, t] 12=[t, f, t] 14=[t, t, t] 15=[f, f, f, f] 17=[f, t, f, f] 19=[f, f, t, f] 20=[t, f, t, f] 21=[f, t, t, f] 22=[t, t, t, f]
-- c13_o16: 11=[f, f, t] 12=[t, f, t] 14=[t, t, t] 15=[f, f, f, f] 17=[f, t, f, f] 19=[f, f, t, f] 20=[t, f, t, f] 21=[f, t, t, f] 22=[t, t, t, f] 23=[f, f, f, t] 24=[t, f, f, t]
-- c13_o17: 11=[f, f, t] 12=[t, f, t] 14=[t, t, t] 15=[f, f, f, f] 17=[f, t, f, f] 19=[f, f, t, f] 20=[t, f, t, f] 21=[f, t, t, f] 22=[t, t, t, f] 23=[f, f, f, t] 24=[t, f, f, t]
-- c13_o18: 11=[f, f, t] 12=[t, f, t] 14=[t, t, t] 15=[f, f, f, f] 17=[f, t, f, f] 19=[f, f, t, f] 20=[t, f, t, f] 21=[f, t, t, f] 22=[t, t, t, f] 23=[f, f, f, t] 24=[t, f, f, t]
-- c13_o19: 11=[f, f, t] 12=[t, f, t] 14=[t, t, t] 15=[f, f, f, f] 17=[f, t, f, f] 19=[f, f, t, f] 20=[t, f, t, f] 21=[f, t, t, f] 22=[t, t, t, f]
-- c13_l0: live slots [11, 12, 14, 15, 17, 19, 20, 21, 22]
-- c13_o20: 11=[f, f, t] 12=[t, f, t] 17=[f, t, f, f] 19=[f, f, t, f] 20=[t, f, t, f] 21=[f, t, t, f]
def c13_o0 : CCode := .trim [[], [false], [true]] (.ops [
  ⟨some [false, false], .box none (.s []), none⟩,
  ⟨some [true, true], .move (.c (.bool false)), none⟩])
def c13_o1 : CCode := .trim [[false], [true], [false, false]] (.ops [
  ⟨some [false, true, false, true], .idxArr 2 1 (.s [false, false]) (.c (.int .i64 0)), none⟩,
  ⟨some [true, true, false, true], .load none (.s [false, true, false, true]), none⟩,
  ⟨some [false, false, true, true], .call false (.c (.func 24 [])) [(.s [true, true, false, true]), (.c (.int .i64 36))], none⟩,
  ⟨some [true, false, true, true], .bin .add (.c (.int .i64 1)) (.s [false, false, true, true]), none⟩,
  ⟨some [false, false, false], .move (.s [true, false, true, true]), none⟩])
def c13_o2 : CCode := .trim [[false], [true], [false, false], [false, false, false]] (.ops [
  ⟨some [false, true, true, true], .idxArr 2 1 (.s [false, false]) (.c (.int .i64 1)), none⟩,
  ⟨some [true, true, true, true], .load none (.s [false, true, true, true]), none⟩,
  ⟨some [false, false, false, false, false], .move (.s [false, false, false]), none⟩,
  ⟨some [true, false, false, false, false], .bin .add (.s [false, false, false, false, false]) (.c (.int .i64 1)), none⟩,
  ⟨some [false, true, false, false, false], .call false (.c (.func 24 [])) [(.s [true, true, true, true]), (.s [true, false, false, false, false])], none⟩,
  ⟨some [true, false, false], .move (.s [false, true, false, false, false]), none⟩])
def c13_o3 : CCode := .trim [[false], [true], [false, false, false], [true, false, false]] (.ops [
  ⟨some [true, true, false, false, false], .move (.s [false, false, false]), none⟩,
  ⟨some [false, false, true, false, false], .move (.s [false]), none⟩,
  ⟨some [true, false, true, false, false], .move (.s [true]), none⟩,
  ⟨some [false, true, true, false, false], .call false (.c (.func 43 [])) [(.s [true, true, false, false, false]), (.s [false, false, true, false, false]), (.s [true, false, true, false, false])], none⟩,
  ⟨some [false, true, false], .alloc none [.nils, .nils], none⟩,
  ⟨none, .store 2 (.s [false, true, false]) (.s [false, true, true, false, false]), none⟩])
def c13_o4 : CCode := .trim [[false, false, false], [true, false, false], [false, true, false]] (.ops [
  ⟨some [true, true, true, false, false], .move (.s [false, false, false]), none⟩,
  ⟨some [false, false, false, true, false], .load (some 2) (.s [false, true, false]), none⟩,
  ⟨some [true, false, false, true, false], .call false (.c (.func 33 [])) [(.s [true, true, true, false, false]), (.s [false, false, false, true, false])], none⟩,
  ⟨some [true, true, false], .move (.s [true, false, false, true, false]), none⟩])
def c13_o5 : CCode := .trim [[false, false, false], [true, false, false], [false, true, false], [true, true, false]] (.ops [
  ⟨some [true, true, false, true, false], .move (.s [false, false, false]), none⟩,
  ⟨some [false, false, true, true, false], .move (.s [true, false, false]), none⟩,
  ⟨some [true, false, true, true, false], .load (some 2) (.s [false, true, false]), none⟩,
  ⟨some [false, true, true, true, false], .call false (.c (.func 34 [])) [(.s [true, true, false, true, false]), (.s [false, false, true, true, false]), (.s [true, false, true, true, false])], none⟩,
  ⟨some [false, true, false, true, false], .move (.s [false, true, true, true, false]), none⟩,
  ⟨some [true, true, true, true, false], .extract 0 (.s [false, true, false, true, false]), none⟩,
  ⟨some [false, false, false, false, true], .extract 1 (.s [false, true, false, true, false]), none⟩,
  ⟨some [true, false, false, false, true], .extract 2 (.s [false, true, false, true, false]), none⟩,
  ⟨some [false, false, true], .alloc none [.int .i64 0, .int .i64 0], none⟩,
  ⟨some [true, false, true], .alloc none [.int .i64 0, .int .i64 0], none⟩,
  ⟨none, .store 2 (.s [false, false, true]) (.s [true, true, true, true, false]), none⟩,
  ⟨none, .store 2 (.s [true, false, true]) (.s [false, false, false, false, true]), none⟩,
  ⟨some [false, true, true], .move (.s [true, false, false, false, true]), none⟩])
def c13_o6 : CCode := .trim [[false, false, false], [true, false, false], [false, true, false], [true, true, false], [false, false, true], [true, false, true], [false, true, true]] (.ops [
  ⟨some [true, true, false, false, true], .move (.s [false, false, false]), none⟩,
  ⟨some [false, false, true, false, true], .move (.s [true, false, false]), none⟩,
  ⟨some [true, false, true, false, true], .load (some 2) (.s [false, true, false]), none⟩,
  ⟨some [false, true, true, false, true], .call false (.c (.func 39 [])) [(.s [true, true, false, false, true]), (.s [false, false, true, false, true]), (.s [true, false, true, false, true])], none⟩,
  ⟨some [false, true, false, false, true], .move (.s [false, true, true, false, true]), none⟩,
  ⟨some [true, true, true, false, true], .extract 0 (.s [false, true, false, false, true]), none⟩,
  ⟨some [false, false, false, true, true], .extract 1 (.s [false, true, false, false, true]), none⟩,
  ⟨some [true, false, false, true, true], .extract 2 (.s [false, true, false, false, true]), none⟩,
  ⟨some [true, true, true], .move (.s [true, true, true, false, true]), none⟩,
  ⟨some [false, false, false, false], .move (.s [false, false, false, true, true]), none⟩,
  ⟨some [true, false, false, false], .move (.s [true, false, false, true, true]), none⟩])
def c13_o7 : CCode := .trim [[false, false, false], [true, false, false], [false, true, false], [true, true, false], [false, false, true], [true, false, true], [false, true, true], [true, true, true], [false, false, false, false], [true, false, false, false]] (.ops [
  ⟨some [true, true, false, true, true], .move (.s [false, false, false]), none⟩,
  ⟨some [false, false, true, true, true], .move (.s [true, false, false]), none⟩,
  ⟨some [true, false, true, true, true], .call false (.c (.func 28 [])) [(.s [true, true, false, true, true]), (.s [false, false, true, true, true])], none⟩,
  ⟨some [false, true, false, true, true], .move (.s [true, false, true, true, true]), none⟩,
  ⟨some [false, true, true, true, true], .extract 0 (.s [false, true, false, true, true]), none⟩,
  ⟨some [true, true, true, true, true], .extract 1 (.s [false, true, false, true, true]), none⟩,
  ⟨some [false, true, false, false], .move (.s [false, true, true, true, true]), none⟩,
  ⟨some [true, true, false, false], .move (.s [true, true, true, true, true]), none⟩])
def c13_o8 : CCode := .trim [[false, true, false], [true, true, false], [false, false, true], [true, false, true], [false, true, true], [true, true, true], [false, false, false, false], [true, false, false, false], [false, true, false, false], [true, true, false, false]] (.ops [
  ⟨some [false, false, false, false, false, false], .move (.s [true, true, false]), none⟩,
  ⟨some [true, false, false, false, false, false], .bin .neq (.s [false, false, false, false, false, false]) (.c (.int .i64 0)), none⟩,
  ⟨some [false, true, false, false, false, false], .move (.s [true, false, false, false, false, false]), none⟩,
  ⟨some [true, true, false, false, false, false], .move (.s [false, true, true]), some ([false, true, false, false, false, false], false)⟩,
  ⟨some [false, false, true, false, false, false], .bin .neq (.s [true, true, false, false, false, false]) (.c (.int .i64 0)), some ([false, true, false, false, false, false], false)⟩,
  ⟨some [true, false, true, false, false, false], .pick (.s [false, true, false, false, false, false]) (.c (.bool true)) (.s [false, false, true, false, false, false]), none⟩,
  ⟨some [false, true, true, false, false, false], .move (.s [true, false, true, false, false, false]), none⟩,
  ⟨some [true, true, true, false, false, false], .move (.s [true, false, false, false]), some ([false, true, true, false, false, false], false)⟩,
  ⟨some [false, false, false, true, false, false], .bin .neq (.s [true, true, true, false, false, false]) (.c (.int .i64 0)), some ([false, true, true, false, false, false], false)⟩,
  ⟨some [true, false, false, true, false, false], .pick (.s [false, true, true, false, false, false]) (.c (.bool true)) (.s [false, false, false, true, false, false]), none⟩,
  ⟨some [false, true, false, true, false, false], .move (.s [true, false, false, true, false, false]), none⟩,
  ⟨some [true, true, false, true, false, false], .move (.s [true, true, false, false]), some ([false, true, false, true, false, false], false)⟩,
  ⟨some [false, false, true, true, false, false], .bin .neq (.s [true, true, false, true, false, false]) (.c (.int .i64 0)), some ([false, true, false, true, false, false], false)⟩,
  ⟨some [true, false, true, true, false, false], .pick (.s [false, true, false, true, false, false]) (.c (.bool true)) (.s [false, false, true, true, false, false]), none⟩,
  ⟨some [false, true, true, true, false, false], .move (.s [true, false, true, true, false, false]), none⟩,
  ⟨some [true, true, true, true, false, false], .move (.s [false, true, false, false]), some ([false, true, true, true, false, false], false)⟩,
  ⟨some [false, false, false, false, true, false], .bin .lss (.s [true, true, true, true, false, false]) (.c (.int .i64 1)), some ([false, true, true, true, false, false], false)⟩,
  ⟨some [true, false, false, false, true, false], .pick (.s [false, true, true, true, false, false]) (.c (.bool true)) (.s [false, false, false, false, true, false]), none⟩,
  ⟨some [false, true, false, false, true, false], .move (.s [true, false, false, false, true, false]), none⟩,
  ⟨some [true, true, false, false, true, false], .move (.s [false, true, false, false]), some ([false, true, false, false, true, false], false)⟩,
  ⟨some [false, false, true, false, true, false], .bin .gtr (.s [true, true, false, false, true, false]) (.c (.int .i64 1099511627776)), some ([false, true, false, false, true, false], false)⟩,
  ⟨some [true, false, true, false, true, false], .pick (.s [false, true, false, false, true, false]) (.c (.bool true)) (.s [false, false, true, false, true, false]), none⟩,
  ⟨some [false, true, true, false, true, false], .move (.s [true, false, true, false, true, false]), none⟩,
  ⟨some [true, true, true, false, true, false], .move (.s [true, true, true]), some ([false, true, true, false, true, false], false)⟩,
  ⟨some [false, false, false, true, true, false], .len 1 (.s [true, true, true, false, true, false]), some ([false, true, true, false, true, false], false)⟩,
  ⟨some [true, false, false, true, true, false], .fieldAddr 0 (.s [false, true, false]), some ([false, true, true, false, true, false], false)⟩,
  ⟨some [false, true, false, true, true, false], .load none (.s [true, false, false, true, true, false]), some ([false, true, true, false, true, false], false)⟩,
  ⟨some [true, true, false, true, true, false], .len 1 (.s [false, true, false, true, true, false]), some ([false, true, true, false, true, false], false)⟩,
  ⟨some [false, false, true, true, true, false], .bin .neq (.s [false, false, false, true, true, false]) (.s [true, true, false, true, true, false]), some ([false, true, true, false, true, false], false)⟩,
  ⟨some [true, false, true, true, true, false], .pick (.s [false, true, true, false, true, false]) (.c (.bool true)) (.s [false, false, true, true, true, false]), none⟩,
  ⟨some [false, true, true, true, true, false], .move (.s [true, false, true, true, true, false]), none⟩,
  ⟨some [true, true, true, true, true, false], .move (.s [false, false, false, false]), some ([false, true, true, true, true, false], false)⟩,
  ⟨some [false, false, false, false, false, true], .len 1 (.s [true, true, true, true, true, false]), some ([false, true, true, true, true, false], false)⟩,
  ⟨some [true, false, false, false, false, true], .fieldAddr 0 (.s [false, true, false]), some ([false, true, true, true, true, false], false)⟩,
  ⟨some [false, true, false, false, false, true], .load none (.s [true, false, false, false, false, true]), some ([false, true, true, true, true, false], false)⟩,
  ⟨some [true, true, false, false, false, true], .len 1 (.s [false, true, false, false, false, true]), some ([false, true, true, true, true, false], false)⟩,
  ⟨some [false, false, true, false, false, true], .bin .neq (.s [false, false, false, false, false, true]) (.s [true, true, false, false, false, true]), some ([false, true, true, true, true, false], false)⟩,
  ⟨some [true, false, true, false, false, true], .pick (.s [false, true, true, true, true, false]) (.c (.bool true)) (.s [false, false, true, false, false, true]), none⟩])
def c13_o9 : CCode := .trim [] (.ops [
  ⟨some [true, true], .move (.c (.bool false)), none⟩])
def c13_o10 : CCode := .trim [[false, false, true], [true, false, true], [true, true, true], [false, false, false, false], [false, true, false, false]] (.ops [
  ⟨some [false, false, true, false], .move (.c (.int .i64 0)), none⟩,
  ⟨some [true, false, true, false], .move (.c (.int .i64 0)), none⟩,
  ⟨some [false, true, true, false], .move (.c (.int .i64 0)), none⟩])
def c13_o11 : CCode := .trim [[false, false, true], [true, false, true], [true, true, true], [false, false, false, false], [false, true, false, false], [false, false, true, false], [true, false, true, false], [false, true, true, false]] (.ops [
  ⟨some [true, true, true, false], .move (.c (.int .i64 0)), none⟩])
def c13_o12 : CCode := .trim [[false, false, true], [true, false, true], [true, true, true], [false, false, false, false], [false, true, false, false], [false, false, true, false], [true, false, true, false], [false, true, true, false], [true, true, true, false]] (.ops [
  ⟨some [false, true, true, false, false, true], .move (.s [true, true, true, false]), none⟩,
  ⟨some [true, true, true, false, false, true], .move (.s [true, true, true]), none⟩,
  ⟨some [false, false, false, true, false, true], .len 1 (.s [true, true, true, false, false, true]), none⟩,
  ⟨some [true, false, false, true, false, true], .bin .lss (.s [false, true, true, false, false, true]) (.s [false, false, false, true, false, true]), none⟩])
def c13_o13 : CCode := .trim [[false, false, true], [true, false, true], [true, true, true], [false, false, false, false], [false, true, false, false], [false, false, true, false], [true, false, true, false], [false, true, true, false], [true, true, true, false]] (.draw 0 [
  ⟨some [false, false, true, true, false, true], .move (.s [true, true, true]), none⟩,
  ⟨some [true, false, true, true, false, true], .move (.s [true, true, true, false]), none⟩,
  ⟨some [false, true, true, true, false, true], .idxSl 2 (.s [false, false, true, true, false, true]) (.s [true, false, true, true, false, true]), none⟩,
  ⟨some [true, true, true, true, false, true], .load (some 2) (.s [false, true, true, true, false, true]), none⟩,
  ⟨some [false, false, false, false, true, true], .call false (.c (.func 26 [])) [(.s [true, true, true, true, false, true])], none⟩,
  ⟨some [true, false, false, false, true, true], .un .not (.s [false, false, false, false, true, true]), none⟩,
  ⟨some [false, true, false, false, true, true], .move (.s [true, false, false, false, true, true]), none⟩,
  ⟨some [true, true, false, false, true, true], .move (.s [false, false, false, false]), some ([false, true, false, false, true, true], false)⟩,
  ⟨some [false, false, true, false, true, true], .move (.s [true, true, true, false]), some ([false, true, false, false, true, true], false)⟩,
  ⟨some [true, false, true, false, true, true], .idxSl 2 (.s [true, true, false, false, true, true]) (.s [false, false, true, false, true, true]), some ([false, true, false, false, true, true], false)⟩,
  ⟨some [false, true, true, false, true, true], .load (some 2) (.s [true, false, true, false, true, true]), some ([false, true, false, false, true, true], false)⟩,
  ⟨some [true, true, true, false, true, true], .call false (.c (.func 26 [])) [(.s [false, true, true, false, true, true])], some ([false, true, false, false, true, true], false)⟩,
  ⟨some [false, false, false, true, true, true], .un .not (.s [true, true, true, false, true, true]), some ([false, true, false, false, true, true], false)⟩,
  ⟨some [true, false, false, true, true, true], .pick (.s [false, true, false, false, true, true]) (.c (.bool true)) (.s [false, false, false, true, true, true]), none⟩,
  ⟨some [false, true, false, true, true, true], .move (.s [true, false, false, true, true, true]), none⟩,
  ⟨some [true, true, false, true, true, true], .move (.s [false, true, false, false]), some ([false, true, false, true, true, true], false)⟩,
  ⟨some [false, false, true, true, true, true], .move (.s [true, true, true]), some ([false, true, false, true, true, true], false)⟩,
  ⟨some [true, false, true, true, true, true], .move (.s [true, true, true, false]), some ([false, true, false, true, true, true], false)⟩,
  ⟨some [false, true, true, true, true, true], .idxSl 2 (.s [false, false, true, true, true, true]) (.s [true, false, true, true, true, true]), some ([false, true, false, true, true, true], false)⟩,
  ⟨some [true, true, true, true, true, true], .fieldAddr 1 (.s [false, true, true, true, true, true]), some ([false, true, false, true, true, true], false)⟩,
  ⟨some [false, false, false, false, false, false, false], .load none (.s [true, true, true, true, true, true]), some ([false, true, false, true, true, true], false)⟩,
  ⟨some [true, false, false, false, false, false, false], .bin .rem (.s [true, true, false, true, true, true]) (.s [false, false, false, false, false, false, false]), some ([false, true, false, true, true, true], false)⟩,
  ⟨some [false, true, false, false, false, false, false], .bin .neq (.s [true, false, false, false, false, false, false]) (.c (.int .i64 0)), some ([false, true, false, true, true, true], false)⟩,
  ⟨some [true, true, false, false, false, false, false], .pick (.s [false, true, false, true, true, true]) (.c (.bool true)) (.s [false, true, false, false, false, false, false]), none⟩,
  ⟨some [false, false, true, false, false, false, false], .move (.s [true, true, false, false, false, false, false]), none⟩,
  ⟨some [true, false, true, false, false, false, false], .move (.s [false, true, false, false]), some ([false, false, true, false, false, false, false], false)⟩,
  ⟨some [false, true, true, false, false, false, false], .move (.s [false, false, false, false]), some ([false, false, true, false, false, false, false], false)⟩,
  ⟨some [true, true, true, false, false, false, false], .move (.s [true, true, true, false]), some ([false, false, true, false, false, false, false], false)⟩,
  ⟨some [false, false, false, true, false, false, false], .idxSl 2 (.s [false, true, true, false, false, false, false]) (.s [true, true, true, false, false, false, false]), some ([false, false, true, false, false, false, false], false)⟩,
  ⟨some [true, false, false, true, false, false, false], .fieldAddr 1 (.s [false, false, false, true, false, false, false]), some ([false, false, true, false, false, false, false], false)⟩,
  ⟨some [false, true, false, true, false, false, false], .load none (.s [true, false, false, true, false, false, false]), some ([false, false, true, false, false, false, false], false)⟩,
  ⟨some [true, true, false, true, false, false, false], .bin .rem (.s [true, false, true, false, false, false, false]) (.s [false, true, false, true, false, false, false]), some ([false, false, true, false, false, false, false], false)⟩,
  ⟨some [false, false, true, true, false, false, false], .bin .neq (.s [true, true, false, true, false, false, false]) (.c (.int .i64 0)), some ([false, false, true, false, false, false, false], false)⟩,
  ⟨some [true, false, true, true, false, false, false], .pick (.s [false, false, true, false, false, false, false]) (.c (.bool true)) (.s [false, false, true, true, false, false, false]), none⟩,
  ⟨some [false, true, true, true, false, false, false], .move (.s [true, false, true, true, false, false, false]), none⟩,
  ⟨some [true, true, true, true, false, false, false], .move (.s [true, true, true]), some ([false, true, true, true, false, false, false], false)⟩,
  ⟨some [false, false, false, false, true, false, false], .move (.s [true, true, true, false]), some ([false, true, true, true, false, false, false], false)⟩,
  ⟨some [true, false, false, false, true, false, false], .idxSl 2 (.s [true, true, true, true, false, false, false]) (.s [false, false, false, false, true, false, false]), some ([false, true, true, true, false, false, false], false)⟩,
  ⟨some [false, true, false, false, true, false, false], .fieldAddr 0 (.s [true, false, false, false, true, false, false]), some ([false, true, true, true, false, false, false], false)⟩,
  ⟨some [true, true, false, false, true, false, false], .load none (.s [false, true, false, false, true, false, false]), some ([false, true, true, true, false, false, false], false)⟩,
  ⟨some [false, false, true, false, true, false, false], .move (.s [true, true, true]), some ([false, true, true, true, false, false, false], false)⟩,
  ⟨some [true, false, true, false, true, false, false], .move (.s [true, true, true, false]), some ([false, true, true, true, false, false, false], false)⟩,
  ⟨some [false, true, true, false, true, false, false], .idxSl 2 (.s [false, false, true, false, true, false, false]) (.s [true, false, true, false, true, false, false]), some ([false, true, true, true, false, false, false], false)⟩,
  ⟨some [true, true, true, false, true, false, false], .fieldAddr 1 (.s [false, true, true, false, true, false, false]), some ([false, true, true, true, false, false, false], false)⟩,
  ⟨some [false, false, false, true, true, false, false], .load none (.s [true, true, true, false, true, false, false]), some ([false, true, true, true, false, false, false], false)⟩,
  ⟨some [true, false, false, true, true, false, false], .bin .gtr (.s [true, true, false, false, true, false, false]) (.s [false, false, false, true, true, false, false]), some ([false, true, true, true, false, false, false], false)⟩,
  ⟨some [false, true, false, true, true, false, false], .pick (.s [false, true, true, true, false, false, false]) (.c (.bool true)) (.s [true, false, false, true, true, false, false]), none⟩,
  ⟨some [true, true, false, true, true, false, false], .move (.s [false, true, false, true, true, false, false]), none⟩,
  ⟨some [false, false, true, true, true, false, false], .move (.s [false, false, false, false]), some ([true, true, false, true, true, false, false], false)⟩,
  ⟨some [true, false, true, true, true, false, false], .move (.s [true, true, true, false]), some ([true, true, false, true, true, false, false], false)⟩,
  ⟨some [false, true, true, true, true, false, false], .idxSl 2 (.s [false, false, true, true, true, false, false]) (.s [true, false, true, true, true, false, false]), some ([true, true, false, true, true, false, false], false)⟩,
  ⟨some [true, true, true, true, true, false, false], .fieldAddr 0 (.s [false, true, true, true, true, false, false]), some ([true, true, false, true, true, false, false], false)⟩,
  ⟨some [false, false, false, false, false, true, false], .load none (.s [true, true, true, true, true, false, false]), some ([true, true, false, true, true, false, false], false)⟩,
  ⟨some [true, false, false, false, false, true, false], .move (.s [false, false, false, false]), some ([true, true, false, true, true, false, false], false)⟩,
  ⟨some [false, true, false, false, false, true, false], .move (.s [true, true, true, false]), some ([true, true, false, true, true, false, false], false)⟩,
  ⟨some [true, true, false, false, false, true, false], .idxSl 2 (.s [true, false, false, false, false, true, false]) (.s [false, true, false, false, false, true, false]), some ([true, true, false, true, true, false, false], false)⟩,
  ⟨some [false, false, true, false, false, true, false], .fieldAddr 1 (.s [true, true, false, false, false, true, false]), some ([true, true, false, true, true, false, false], false)⟩,
  ⟨some [true, false, true, false, false, true, false], .load none (.s [false, false, true, false, false, true, false]), some ([true, true, false, true, true, false, false], false)⟩,
  ⟨some [false, true, true, false, false, true, false], .bin .gtr (.s [false, false, false, false, false, true, false]) (.s [true, false, true, false, false, true, false]), some ([true, true, false, true, true, false, false], false)⟩,
  ⟨some [true, true, true, false, false, true, false], .pick (.s [true, true, false, true, true, false, false]) (.c (.bool true)) (.s [false, true, true, false, false, true, false]), none⟩]
  [(39, 44), (52, 57)] [[], [], [0, 1], [0, 1, 2], [0, 1, 2, 3], [0, 1, 2, 3, 4], [0, 1, 2, 3, 4, 5], [0, 1, 2, 3, 4, 5, 6], [0, 1, 2, 3, 4, 5, 6], [0, 1, 2, 3, 4, 5, 6, 7, 8], [0, 1, 2, 3, 4, 5, 6, 7, 8, 9], [0, 1, 2, 3, 4, 5, 6, 7, 8, 9, 10], [0, 1, 2, 3, 4, 5, 6, 7, 8, 9, 10, 11], [0, 1, 2, 3, 4, 5, 6, 7, 8, 9, 10, 11, 12], [0, 1, 2, 3, 4, 5, 6, 7, 8, 9, 10, 11, 12, 13], [0, 1, 2, 3, 4, 5, 6, 7, 8, 9, 10, 11, 12, 13, 14], [0, 1, 2, 3, 4, 5, 6, 7, 8, 9, 10, 11, 12, 13, 14], [0, 1, 2, 3, 4, 5, 6, 7, 8, 9, 10, 11, 12, 13, 14], [0, 1, 2, 3, 4, 5, 6, 7, 8, 9, 10, 11, 12, 13, 14, 16, 17], [0, 1, 2, 3, 4, 5, 6, 7, 8, 9, 10, 11, 12, 13, 14, 16, 17, 18], [0, 1, 2, 3, 4, 5, 6, 7, 8, 9, 10, 11, 12, 13, 14, 16, 17, 18, 19], [0, 1, 2, 3, 4, 5, 6, 7, 8, 9, 10, 11, 12, 13, 14, 15, 16, 17, 18, 19, 20], [0, 1, 2, 3, 4, 5, 6, 7, 8, 9, 10, 11, 12, 13, 14, 15, 16, 17, 18, 19, 20, 21], [0, 1, 2, 3, 4, 5, 6, 7, 8, 9, 10, 11, 12, 13, 14, 15, 16, 17, 18, 19, 20, 21, 22], [0, 1, 2, 3, 4, 5, 6, 7, 8, 9, 10, 11, 12, 13, 14, 15, 16, 17, 18, 19, 20, 21, 22, 23], [0, 1, 2, 3, 4, 5, 6, 7, 8, 9, 10, 11, 12, 13, 14, 15, 16, 17, 18, 19, 20, 21, 22, 23, 24], [0, 1, 2, 3, 4, 5, 6, 7, 8, 9, 10, 11, 12, 13, 14, 15, 16, 17, 18, 19, 20, 21, 22, 23, 24], [0, 1, 2, 3, 4, 5, 6, 7, 8, 9, 10, 11, 12, 13, 14, 15, 16, 17, 18, 19, 20, 21, 22, 23, 24], [0, 1, 2, 3, 4, 5, 6, 7, 8, 9, 10, 11, 12, 13, 14, 15, 16, 17, 18, 19, 20, 21, 22, 23, 24, 26, 27], [0, 1, 2, 3, 4, 5, 6, 7, 8, 9, 10, 11, 12, 13, 14, 15, 16, 17, 18, 19, 20, 21, 22, 23, 24, 26, 27, 28], [0, 1, 2, 3, 4, 5, 6, 7, 8, 9, 10, 11, 12, 13, 14, 15, 16, 17, 18, 19, 20, 21, 22, 23, 24, 26, 27, 28, 29], [0, 1, 2, 3, 4, 5, 6, 7, 8, 9, 10, 11, 12, 13, 14, 15, 16, 17, 18, 19, 20, 21, 22, 23, 24, 25, 26, 27, 28, 29, 30], [0, 1, 2, 3, 4, 5, 6, 7, 8, 9, 10, 11, 12, 13, 14, 15, 16, 17, 18, 19, 20, 21, 22, 23, 24, 25, 26, 27, 28, 29, 30, 31], [0, 1, 2, 3, 4, 5, 6, 7, 8, 9, 10, 11, 12, 13, 14, 15, 16, 17, 18, 19, 20, 21, 22, 23, 24, 25, 26, 27, 28, 29, 30, 31, 32], [0, 1, 2, 3, 4, 5, 6, 7, 8, 9, 10, 11, 12, 13, 14, 15, 16, 17, 18, 19, 20, 21, 22, 23, 24, 25, 26, 27, 28, 29, 30, 31, 32, 33], [0, 1, 2, 3, 4, 5, 6, 7, 8, 9, 10, 11, 12, 13, 14, 15, 16, 17, 18, 19, 20, 21, 22, 23, 24, 25, 26, 27, 28, 29, 30, 31, 32, 33, 34], [0, 1, 2, 3, 4, 5, 6, 7, 8, 9, 10, 11, 12, 13, 14, 15, 16, 17, 18, 19, 20, 21, 22, 23, 24, 25, 26, 27, 28, 29, 30, 31, 32, 33, 34], [0, 1, 2, 3, 4, 5, 6, 7, 8, 9, 10, 11, 12, 13, 14, 15, 16, 17, 18, 19, 20, 21, 22, 23, 24, 25, 26, 27, 28, 29, 30, 31, 32, 33, 34, 35, 36], [0, 1, 2, 3, 4, 5, 6, 7, 8, 9, 10, 11, 12, 13, 14, 15, 16, 17, 18, 19, 20, 21, 22, 23, 24, 25, 26, 27, 28, 29, 30, 31, 32, 33, 34, 35, 36, 37], [0, 1, 2, 3, 4, 5, 6, 7, 8, 9, 10, 11, 12, 13, 14, 15, 16, 17, 18, 19, 20, 21, 22, 23, 24, 25, 26, 27, 28, 29, 30, 31, 32, 33, 34, 35, 36, 37, 38], [0, 1, 2, 3, 4, 5, 6, 7, 8, 9, 10, 11, 12, 13, 14, 15, 16, 17, 18, 19, 20, 21, 22, 23, 24, 25, 26, 27, 28, 29, 30, 31, 32, 33, 34], [0, 1, 2, 3, 4, 5, 6, 7, 8, 9, 10, 11, 12, 13, 14, 15, 16, 17, 18, 19, 20, 21, 22, 23, 24, 25, 26, 27, 28, 29, 30, 31, 32, 33, 34], [0, 1, 2, 3, 4, 5, 6, 7, 8, 9, 10, 11, 12, 13, 14, 15, 16, 17, 18, 19, 20, 21, 22, 23, 24, 25, 26, 27, 28, 29, 30, 31, 32, 33, 34, 40, 41], [0, 1, 2, 3, 4, 5, 6, 7, 8, 9, 10, 11, 12, 13, 14, 15, 16, 17, 18, 19, 20, 21, 22, 23, 24, 25, 26, 27, 28, 29, 30, 31, 32, 33, 34, 40, 41, 42], [0, 1, 2, 3, 4, 5, 6, 7, 8, 9, 10, 11, 12, 13, 14, 15, 16, 17, 18, 19, 20, 21, 22, 23, 24, 25, 26, 27, 28, 29, 30, 31, 32, 33, 34, 40, 41, 42, 43], [0, 1, 2, 3, 4, 5, 6, 7, 8, 9, 10, 11, 12, 13, 14, 15, 16, 17, 18, 19, 20, 21, 22, 23, 24, 25, 26, 27, 28, 29, 30, 31, 32, 33, 34, 35, 36, 37, 38, 39, 40, 41, 42, 43, 44], [0, 1, 2, 3, 4, 5, 6, 7, 8, 9, 10, 11, 12, 13, 14, 15, 16, 17, 18, 19, 20, 21, 22, 23, 24, 25, 26, 27, 28, 29, 30, 31, 32, 33, 34, 35, 36, 37, 38, 39, 40, 41, 42, 43, 44, 45], [0, 1, 2, 3, 4, 5, 6, 7, 8, 9, 10, 11, 12, 13, 14, 15, 16, 17, 18, 19, 20, 21, 22, 23, 24, 25, 26, 27, 28, 29, 30, 31, 32, 33, 34, 35, 36, 37, 38, 39, 40, 41, 42, 43, 44, 45, 46], [0, 1, 2, 3, 4, 5, 6, 7, 8, 9, 10, 11, 12, 13, 14, 15, 16, 17, 18, 19, 20, 21, 22, 23, 24, 25, 26, 27, 28, 29, 30, 31, 32, 33, 34, 35, 36, 37, 38, 39, 40, 41, 42, 43, 44, 45, 46, 47], [0, 1, 2, 3, 4, 5, 6, 7, 8, 9, 10, 11, 12, 13, 14, 15, 16, 17, 18, 19, 20, 21, 22, 23, 24, 25, 26, 27, 28, 29, 30, 31, 32, 33, 34, 35, 36, 37, 38, 39, 40, 41, 42, 43, 44, 45, 46, 47], [0, 1, 2, 3, 4, 5, 6, 7, 8, 9, 10, 11, 12, 13, 14, 15, 16, 17, 18, 19, 20, 21, 22, 23, 24, 25, 26, 27, 28, 29, 30, 31, 32, 33, 34, 35, 36, 37, 38, 39, 40, 41, 42, 43, 44, 45, 46, 47, 48, 49], [0, 1, 2, 3, 4, 5, 6, 7, 8, 9, 10, 11, 12, 13, 14, 15, 16, 17, 18, 19, 20, 21, 22, 23, 24, 25, 26, 27, 28, 29, 30, 31, 32, 33, 34, 35, 36, 37, 38, 39, 40, 41, 42, 43, 44, 45, 46, 47, 48, 49, 50], [0, 1, 2, 3, 4, 5, 6, 7, 8, 9, 10, 11, 12, 13, 14, 15, 16, 17, 18, 19, 20, 21, 22, 23, 24, 25, 26, 27, 28, 29, 30, 31, 32, 33, 34, 35, 36, 37, 38, 39, 40, 41, 42, 43, 44, 45, 46, 47, 48, 49, 50, 51], [0, 1, 2, 3, 4, 5, 6, 7, 8, 9, 10, 11, 12, 13, 14, 15, 16, 17, 18, 19, 20, 21, 22, 23, 24, 25, 26, 27, 28, 29, 30, 31, 32, 33, 34, 35, 36, 37, 38, 39, 40, 41, 42, 43, 44, 45, 46, 47], [0, 1, 2, 3, 4, 5, 6, 7, 8, 9, 10, 11, 12, 13, 14, 15, 16, 17, 18, 19, 20, 21, 22, 23, 24, 25, 26, 27, 28, 29, 30, 31, 32, 33, 34, 35, 36, 37, 38, 39, 40, 41, 42, 43, 44, 45, 46, 47], [0, 1, 2, 3, 4, 5, 6, 7, 8, 9, 10, 11, 12, 13, 14, 15, 16, 17, 18, 19, 20, 21, 22, 23, 24, 25, 26, 27, 28, 29, 30, 31, 32, 33, 34, 35, 36, 37, 38, 39, 40, 41, 42, 43, 44, 45, 46, 47, 53, 54], [0, 1, 2, 3, 4, 5, 6, 7, 8, 9, 10, 11, 12, 13, 14, 15, 16, 17, 18, 19, 20, 21, 22, 23, 24, 25, 26, 27, 28, 29, 30, 31, 32, 33, 34, 35, 36, 37, 38, 39, 40, 41, 42, 43, 44, 45, 46, 47, 53, 54, 55], [0, 1, 2, 3, 4, 5, 6, 7, 8, 9, 10, 11, 12, 13, 14, 15, 16, 17, 18, 19, 20, 21, 22, 23, 24, 25, 26, 27, 28, 29, 30, 31, 32, 33, 34, 35, 36, 37, 38, 39, 40, 41, 42, 43, 44, 45, 46, 47, 53, 54, 55, 56], [0, 1, 2, 3, 4, 5, 6, 7, 8, 9, 10, 11, 12, 13, 14, 15, 16, 17, 18, 19, 20, 21, 22, 23, 24, 25, 26, 27, 28, 29, 30, 31, 32, 33, 34, 35, 36, 37, 38, 39, 40, 41, 42, 43, 44, 45, 46, 47, 48, 49, 50, 51, 52, 53, 54, 55, 56, 57], [0, 1, 2, 3, 4, 5, 6, 7, 8, 9, 10, 11, 12, 13, 14, 15, 16, 17, 18, 19, 20, 21, 22, 23, 24, 25, 26, 27, 28, 29, 30, 31, 32, 33, 34, 35, 36, 37, 38, 39, 40, 41, 42, 43, 44, 45, 46, 47, 48, 49, 50, 51, 52, 53, 54, 55, 56, 57, 58]])
def c13_o14 : CCode := .trim [] (.ops [
  ⟨some [true, true], .move (.c (.bool false)), none⟩])
def c13_o15 : CCode := .trim [[false, false, true], [true, false, true], [true, true, true], [false, false, false, false], [false, true, false, false], [false, false, true, false], [true, false, true, false], [false, true, true, false], [true, true, true, false]] (.draw 0 [
  ⟨some [false, false, false, true, false, true, false], .move (.s [false, true, false, false]), none⟩,
  ⟨some [true, false, false, true, false, true, false], .move (.s [true, true, true]), none⟩,
  ⟨some [false, true, false, true, false, true, false], .move (.s [true, true, true, false]), none⟩,
  ⟨some [true, true, false, true, false, true, false], .idxSl 2 (.s [true, false, false, true, false, true, false]) (.s [false, true, false, true, false, true, false]), none⟩,
  ⟨some [false, false, true, true, false, true, false], .fieldAddr 1 (.s [true, true, false, true, false, true, false]), none⟩,
  ⟨some [true, false, true, true, false, true, false], .load none (.s [false, false, true, true, false, true, false]), none⟩,
  ⟨some [false, true, true, true, false, true, false], .bin .quo (.s [false, false, false, true, false, true, false]) (.s [true, false, true, true, false, true, false]), none⟩,
  ⟨some [true, true, true, true, false, true, false], .move (.s [true, true, true]), none⟩,
  ⟨some [false, false, false, false, true, true, false], .move (.s [true, true, true, false]), none⟩,
  ⟨some [true, false, false, false, true, true, false], .idxSl 2 (.s [true, true, true, true, false, true, false]) (.s [false, false, false, false, true, true, false]), none⟩,
  ⟨some [false, true, false, false, true, true, false], .fieldAddr 0 (.s [true, false, false, false, true, true, false]), none⟩,
  ⟨some [true, true, false, false, true, true, false], .load none (.s [false, true, false, false, true, true, false]), none⟩,
  ⟨some [false, false, true, false, true, true, false], .bin .mul (.s [false, true, true, true, false, true, false]) (.s [true, true, false, false, true, true, false]), none⟩,
  ⟨some [true, false, true, false, true, true, false], .move (.s [false, true, false, false]), none⟩,
  ⟨some [false, true, true, false, true, true, false], .move (.s [false, false, false, false]), none⟩,
  ⟨some [true, true, true, false, true, true, false], .move (.s [true, true, true, false]), none⟩,
  ⟨some [false, false, false, true, true, true, false], .idxSl 2 (.s [false, true, true, false, true, true, false]) (.s [true, true, true, false, true, true, false]), none⟩,
  ⟨some [true, false, false, true, true, true, false], .fieldAddr 1 (.s [false, false, false, true, true, true, false]), none⟩,
  ⟨some [false, true, false, true, true, true, false], .load none (.s [true, false, false, true, true, true, false]), none⟩,
  ⟨some [true, true, false, true, true, true, false], .bin .quo (.s [true, false, true, false, true, true, false]) (.s [false, true, false, true, true, true, false]), none⟩,
  ⟨some [false, false, true, true, true, true, false], .move (.s [false, false, false, false]), none⟩,
  ⟨some [true, false, true, true, true, true, false], .move (.s [true, true, true, false]), none⟩,
  ⟨some [false, true, true, true, true, true, false], .idxSl 2 (.s [false, false, true, true, true, true, false]) (.s [true, false, true, true, true, true, false]), none⟩,
  ⟨some [true, true, true, true, true, true, false], .fieldAddr 0 (.s [false, true, true, true, true, true, false]), none⟩,
  ⟨some [false, false, false, false, false, false, true], .load none (.s [true, true, true, true, true, true, false]), none⟩,
  ⟨some [true, false, false, false, false, false, true], .bin .mul (.s [true, true, false, true, true, true, false]) (.s [false, false, false, false, false, false, true]), none⟩,
  ⟨some [false, false, false, true], .move (.s [false, false, true, false, true, true, false]), none⟩,
  ⟨some [true, false, false, true], .move (.s [true, false, false, false, false, false, true]), none⟩]
  [(5, 11), (5, 18), (11, 18), (5, 24), (11, 24), (18, 24)] [[], [], [], [1, 2], [1, 2, 3], [1, 2, 3, 4], [0, 1, 2, 3, 4, 5], [], [], [7, 8], [7, 8, 9], [7, 8, 9, 10], [0, 1, 2, 3, 4, 5, 6, 7, 8, 9, 10, 11], [], [], [], [14, 15], [14, 15, 16], [14, 15, 16, 17], [13, 14, 15, 16, 17, 18], [], [], [20, 21], [20, 21, 22], [20, 21, 22, 23], [13, 14, 15, 16, 17, 18, 19, 20, 21, 22, 23, 24], [0, 1, 2, 3, 4, 5, 6, 7, 8, 9, 10, 11, 12], [0, 1, 2, 3, 4, 5, 6, 7, 8, 9, 10, 11, 12, 13, 14, 15, 16, 17, 18, 19, 20, 21, 22, 23, 24, 25, 26]])
def c13_o16 : CCode := .trim [[false, false, true], [true, false, true], [true, true, true], [false, false, false, false], [false, true, false, false], [false, false, true, false], [true, false, true, false], [false, true, true, false], [true, true, true, false], [false, false, false, true], [true, false, false, true]] (.ops [
  ⟨some [false, true, false, false, false, false, true], .move (.s [false, false, true, false]), none⟩,
  ⟨some [true, true, false, false, false, false, true], .move (.s [false, false, false, true]), none⟩,
  ⟨some [false, false, true, false, false, false, true], .bin .add (.s [false, true, false, false, false, false, true]) (.s [true, true, false, false, false, false, true]), none⟩,
  ⟨some [false, false, true, false], .move (.s [false, false, true, false, false, false, true]), none⟩])
def c13_o17 : CCode := .trim [[false, false, true], [true, false, true], [true, true, true], [false, false, false, false], [false, true, false, false], [false, false, true, false], [true, false, true, false], [false, true, true, false], [true, true, true, false], [false, false, false, true], [true, false, false, true]] (.ops [
  ⟨some [true, false, true, false, false, false, true], .move (.s [true, false, true, false]), none⟩,
  ⟨some [false, true, true, false, false, false, true], .move (.s [false, false, false, true]), none⟩,
  ⟨some [true, true, true, false, false, false, true], .bin .add (.s [true, false, true, false, false, false, true]) (.s [false, true, true, false, false, false, true]), none⟩,
  ⟨some [false, false, false, true, false, false, true], .move (.s [true, false, false, true]), none⟩,
  ⟨some [true, false, false, true, false, false, true], .bin .add (.s [true, true, true, false, false, false, true]) (.s [false, false, false, true, false, false, true]), none⟩,
  ⟨some [true, false, true, false], .move (.s [true, false, false, true, false, false, true]), none⟩])
def c13_o18 : CCode := .trim [[false, false, true], [true, false, true], [true, true, true], [false, false, false, false], [false, true, false, false], [false, false, true, false], [true, false, true, false], [false, true, true, false], [true, true, true, false], [false, false, false, true], [true, false, false, true]] (.ops [
  ⟨some [false, true, false, true, false, false, true], .move (.s [false, true, true, false]), none⟩,
  ⟨some [true, true, false, true, false, false, true], .move (.s [true, true, true, false]), none⟩,
  ⟨some [false, false, true, true, false, false, true], .bin .add (.s [true, true, false, true, false, false, true]) (.c (.int .i64 1)), none⟩,
  ⟨some [true, false, true, true, false, false, true], .move (.s [false, false, false, true]), none⟩,
  ⟨some [false, true, true, true, false, false, true], .move (.s [true, false, false, true]), none⟩,
  ⟨some [true, true, true, true, false, false, true], .bin .add (.s [true, false, true, true, false, false, true]) (.s [false, true, true, true, false, false, true]), none⟩,
  ⟨some [false, false, false, false, true, false, true], .bin .mul (.s [false, false, true, true, false, false, true]) (.s [true, true, true, true, false, false, true]), none⟩,
  ⟨some [true, false, false, false, true, false, true], .bin .add (.s [false, true, false, true, false, false, true]) (.s [false, false, false, false, true, false, true]), none⟩,
  ⟨some [false, true, true, false], .move (.s [true, false, false, false, true, false, true]), none⟩])
def c13_o19 : CCode := .trim [[false, false, true], [true, false, true], [true, true, true], [false, false, false, false], [false, true, false, false], [false, false, true, false], [true, false, true, false], [false, true, true, false], [true, true, true, false]] (.ops [
  ⟨some [false, true, false, true, false, true], .move (.s [true, true, true, false]), none⟩,
  ⟨some [true, true, false, true, false, true], .bin .add (.s [false, true, false, true, false, true]) (.c (.int .i64 1)), none⟩,
  ⟨some [true, true, true, false], .move (.s [true, true, false, true, false, true]), none⟩])
def c13_b0 : CCode := (.seq (.seq c13_o12
 (.cond (.s [true, false, false, true, false, true]) .skip (.exit 0)))
 (.seq (.block 1 (.seq (.seq c13_o13
 (.cond (.s [true, true, true, false, false, true, false]) (.seq c13_o14
 .ret) .skip))
 (.seq c13_o15
 (.seq c13_o16
 (.seq c13_o17
 c13_o18)))))
 c13_o19))
def c13_l0 : CCode := .loop [[false, false, true], [true, false, true], [true, true, true], [false, false, false, false], [false, true, false, false], [false, false, true, false], [true, false, true, false], [false, true, true, false], [true, true, true, false]] c13_b0
def c13_o20 : CCode := .trim [[false, false, true], [true, false, true], [false, true, false, false], [false, false, true, false], [true, false, true, false], [false, true, true, false]] (.draw 0 [
  ⟨some [false, true, false, false, true, false, true], .move (.s [true, false, true, false]), none⟩,
  ⟨some [true, true, false, false, true, false, true], .move (.s [false, true, false, false]), none⟩,
  ⟨some [false, false, true, false, true, false, true], .bin .eql (.s [false, true, false, false, true, false, true]) (.s [true, true, false, false, true, false, true]), none⟩,
  ⟨some [true, false, true, false, true, false, true], .move (.s [false, false, true, false, true, false, true]), none⟩,
  ⟨some [false, true, true, false, true, false, true], .load (some 2) (.s [false, false, true]), some ([true, false, true, false, true, false, true], true)⟩,
  ⟨some [true, true, true, false, true, false, true], .move (.s [false, false, true, false]), some ([true, false, true, false, true, false, true], true)⟩,
  ⟨some [false, false, false, true, true, false, true], .move (.s [false, true, false, false]), some ([true, false, true, false, true, false, true], true)⟩,
  ⟨some [true, false, false, true, true, false, true], .call false (.c (.func 25 [])) [(.s [true, true, true, false, true, false, true]), (.s [false, false, false, true, true, false, true])], some ([true, false, true, false, true, false, true], true)⟩,
  ⟨some [false, true, false, true, true, false, true], .eqa [.i .i64, .i .i64] false (.s [false, true, true, false, true, false, true]) (.s [true, false, false, true, true, false, true]), some ([true, false, true, false, true, false, true], true)⟩,
  ⟨some [true, true, false, true, true, false, true], .pick (.s [true, false, true, false, true, false, true]) (.s [false, true, false, true, true, false, true]) (.c (.bool false)), none⟩,
  ⟨some [false, false, true, true, true, false, true], .move (.s [true, true, false, true, true, false, true]), none⟩,
  ⟨some [true, false, true, true, true, false, true], .load (some 2) (.s [true, false, true]), some ([false, false, true, true, true, false, true], true)⟩,
  ⟨some [false, true, true, true, true, false, true], .move (.s [false, true, true, false]), some ([false, false, true, true, true, false, true], true)⟩,
  ⟨some [true, true, true, true, true, false, true], .move (.s [false, true, false, false]), some ([false, false, true, true, true, false, true], true)⟩,
  ⟨some [false, false, false, false, false, true, true], .call false (.c (.func 25 [])) [(.s [false, true, true, true, true, false, true]), (.s [true, true, true, true, true, false, true])], some ([false, false, true, true, true, false, true], true)⟩,
  ⟨some [true, false, false, false, false, true, true], .eqa [.i .i64, .i .i64] false (.s [true, false, true, true, true, false, true]) (.s [false, false, false, false, false, true, true]), some ([false, false, true, true, true, false, true], true)⟩,
  ⟨some [false, true, false, false, false, true, true], .pick (.s [false, false, true, true, true, false, true]) (.s [true, false, false, false, false, true, true]) (.c (.bool false)), none⟩,
  ⟨some [true, true, false, false, false, true, true], .move (.s [false, true, false, false, false, true, true]), none⟩,
  ⟨some [false, false, true, false, false, true, true], .call false (.c (.func 20 [])) [], some ([true, true, false, false, false, true, true], true)⟩,
  ⟨some [true, false, true, false, false, true, true], .pick (.s [true, true, false, false, false, true, true]) (.s [false, false, true, false, false, true, true]) (.c (.bool false)), none⟩,
  ⟨some [true, true], .move (.s [true, false, true, false, false, true, true]), none⟩]
  [(4, 7), (11, 14)] [[], [], [0, 1], [0, 1, 2], [0, 1, 2, 3], [0, 1, 2, 3], [0, 1, 2, 3], [0, 1, 2, 3, 5, 6], [0, 1, 2, 3, 4, 5, 6, 7], [0, 1, 2, 3, 4, 5, 6, 7, 8], [0, 1, 2, 3, 4, 5, 6, 7, 8, 9], [0, 1, 2, 3, 4, 5, 6, 7, 8, 9, 10], [0, 1, 2, 3, 4, 5, 6, 7, 8, 9, 10], [0, 1, 2, 3, 4, 5, 6, 7, 8, 9, 10], [0, 1, 2, 3, 4, 5, 6, 7, 8, 9, 10, 12, 13], [0, 1, 2, 3, 4, 5, 6, 7, 8, 9, 10, 11, 12, 13, 14], [0, 1, 2, 3, 4, 5, 6, 7, 8, 9, 10, 11, 12, 13, 14, 15], [0, 1, 2, 3, 4, 5, 6, 7, 8, 9, 10, 11, 12, 13, 14, 15, 16], [0, 1, 2, 3, 4, 5, 6, 7, 8, 9, 10, 11, 12, 13, 14, 15, 16, 17], [0, 1, 2, 3, 4, 5, 6, 7, 8, 9, 10, 11, 12, 13, 14, 15, 16, 17, 18], [0, 1, 2, 3, 4, 5, 6, 7, 8, 9, 10, 11, 12, 13, 14, 15, 16, 17, 18, 19]])
def c13 : CFunc := { params := [[], [false], [true]], results := [.slot [true, true]], shared := false, body := (.seq c13_o0
 (.seq c13_o1
 (.seq c13_o2
 (.seq c13_o3
 (.seq c13_o4
 (.seq c13_o5
 (.seq c13_o6
 (.seq c13_o7
 (.seq (.seq c13_o8
 (.cond (.s [true, false, true, false, false, true]) (.seq c13_o9
 .ret) .skip))
 (.seq c13_o10
 (.seq (.seq c13_o11
 (.block 0 c13_l0))
 (.seq c13_o20
 .ret)))))))))))) }
-- numnah/numnahlaw05.SampleCurves
-- c14_o0: 0=[] 1=[f] 2=[t]
-- c14_o1: 0=[] 1=[f] 2=[t]
-- c14_o2: 0=[] 1=[f] 2=[t] 7=[f, f, f] 8=[t, f, f]
-- c14_o3: 0=[] 1=[f] 2=[t] 7=[f, f, f] 8=[t, f, f] 9=[f, t, f] 10=[t, t, f] 11=[f, f, t]
-- c14_o4: 0=[] 1=[f] 2=[t] 7=[f, f, f] 8=[t, f, f] 9=[f, t, f] 10=[t, t, f] 11=[f, f, t] 12=[t, f, t] 13=[f, t, t]
-- c14_o5: 7=[f, f, f] 8=[t, f, f] 9=[f, t, f] 10=[t, t, f] 11=[f, f, t] 12=[t, f, t] 13=[f, t, t]
-- c14_o6: 0=[] 1=[f] 2=[t] 7=[f, f, f] 8=[t, f, f] 9=[f, t, f] 10=[t, t, f] 11=[f, f, t] 12=[t, f, t] 13=[f, t, t]
-- c14_o7: 0=[] 1=[f] 2=[t] 7=[f, f, f] 8=[t, f, f] 9=[f, t, f] 10=[t, t, f] 11=[f, f, t] 12=[t, f, t] 13=[f, t, t] 14=[t, t, t]
-- c14_o8: 
-- c14_o9: 0=[] 1=[f] 2=[t] 7=[f, f, f] 9=[f, t, f] 10=[t, t, f]
-- c14_o10: 0=[] 1=[f] 2=[t] 7=[f, f, f] 9=[f, t, f] 10=[t, t, f] 15=[f, f, f, f] 16=[t, f, f, f]
-- c14_o11: 0=[] 1=[f] 2=[t] 7=[f, f, f] 9=[f, t, f] 10=[t, t, f] 15=[f, f, f, f] 16=[t, f, f, f] 17=[f, t, f, f]
-- c14_o12: 0=[] 1=[f] 2=[t] 7=[f, f, f] 9=[f, t, f] 10=[t, t, f] 15=[f, f, f, f] 16=[t, f, f, f] 17=[f, t, f, f]
-- c14_o13: 0=[] 1=[f] 2=[t] 7=[f, f, f] 9=[f, t, f] 10=[t, t, f] 15=[f, f, f, f] 16=[t, f, f, f] 17=[f, t, f, f] 18=[t, t, f, f]
-- c14_o14: 
-- c14_o15: 0=[] 1=[f] 2=[t] 7=[f, f, f] 9=[f, t, f] 10=[t, t, f] 15=[f, f, f, f] 16=[t, f, f, f] 17=[f, t, f, f] 18=[t, t, f, f]
-- c14_o16: 0=[] 1=[f] 2=[t] 7=[f, f, f] 9=[f, t, f] 10=[t, t, f] 15=[f, f, f, f] 16=[t, f, f, f] 17=[f, t, f, f] 19=[f, f, t, f]
-- c14_o17: 0=[] 1=[f] 2=[t] 7=[f, f, f] 9=[f, t, f] 10=[t, t, f] 15=[f, f, f, f] 17=[f, t, f, f] 19=[f, f, t, f]
-- c14_o18: 0=[] 1=[f] 2=[t] 7=[f, f, f] 9=[f, t, f] 10=[t, t, f] 15=[f, f, f, f] 17=[f, t, f, f]
-- c14_o19: 0=[] 1=[f] 2=[t] 7=[f, f, f] 9=[f, t, f] 10=[t, t, f] 15=[f, f, f, f] 16=[t, f, f, f] 17=[f, t, f, f]
-- c14_l0: live slots [0, 1, 2, 7, 9, 10, 15, 16, 17]
-- c14_o20: 9=[f, t, f] 10=[t, t, f] 15=[f, f, f, f] 16=[t, f, f, f]
def c14_o0 : CCode := .trim [[], [false], [true]] (.ops [
  ⟨some [true, true], .move (.c (.bool false)), none⟩])
def c14_o1 : CCode := .trim [[], [false], [true]] (.ops [
  ⟨some [false, true, true, false], .move (.s []), none⟩,
  ⟨some [true, true, true, false], .move (.s [false]), none⟩,
  ⟨some [false, false, false, true], .move (.s [true]), none⟩,
  ⟨some [true, false, false, true], .call false (.c (.func 35 [])) [(.s [false, true, true, false]), (.s [true, true, true, false]), (.s [false, false, false, true])], none⟩,
  ⟨some [true, false, true, false], .move (.s [true, false, false, true]), none⟩,
  ⟨some [false, true, false, true], .extract 0 (.s [true, false, true, false]), none⟩,
  ⟨some [true, true, false, true], .extract 1 (.s [true, false, true, false]), none⟩,
  ⟨some [false, false, false], .move (.s [false, true, false, true]), none⟩,
  ⟨some [true, false, false], .move (.s [true, true, false, true]), none⟩])
def c14_o2 : CCode := .trim [[], [false], [true], [false, false, false], [true, false, false]] (.ops [
  ⟨some [true, false, true, true], .move (.s []), none⟩,
  ⟨some [false, true, true, true], .move (.s [false]), none⟩,
  ⟨some [true, true, true, true], .move (.s [true]), none⟩,
  ⟨some [false, false, false, false, false], .call false (.c (.func 36 [])) [(.s [true, false, true, true]), (.s [false, true, true, true]), (.s [true, true, true, true])], none⟩,
  ⟨some [false, false, true, true], .move (.s [false, false, false, false, false]), none⟩,
  ⟨some [true, false, false, false, false], .extract 0 (.s [false, false, true, true]), none⟩,
  ⟨some [false, true, false, false, false], .extract 1 (.s [false, false, true, true]), none⟩,
  ⟨some [true, true, false, false, false], .extract 2 (.s [false, false, true, true]), none⟩,
  ⟨some [false, true, false], .alloc none [.int .i64 0, .int .i64 0], none⟩,
  ⟨none, .store 2 (.s [false, true, false]) (.s [true, false, false, false, false]), none⟩,
  ⟨some [true, true, false], .move (.s [false, true, false, false, false]), none⟩,
  ⟨some [false, false, true], .move (.s [true, true, false, false, false]), none⟩])
def c14_o3 : CCode := .trim [[], [false], [true], [false, false, false], [true, false, false], [false, true, false], [true, true, false], [false, false, true]] (.ops [
  ⟨some [true, false, true, false, false], .move (.s []), none⟩,
  ⟨some [false, true, true, false, false], .move (.s [false]), none⟩,
  ⟨some [true, true, true, false, false], .move (.s [true]), none⟩,
  ⟨some [false, false, false, true, false], .call false (.c (.func 32 [])) [(.s [true, false, true, false, false]), (.s [false, true, true, false, false]), (.s [true, true, true, false, false])], none⟩,
  ⟨some [false, false, true, false, false], .move (.s [false, false, false, true, false]), none⟩,
  ⟨some [true, false, false, true, false], .extract 0 (.s [false, false, true, false, false]), none⟩,
  ⟨some [false, true, false, true, false], .extract 1 (.s [false, false, true, false, false]), none⟩,
  ⟨some [true, false, true], .alloc none [.nils, .nils], none⟩,
  ⟨none, .store 2 (.s [true, false, true]) (.s [true, false, false, true, false]), none⟩,
  ⟨some [false, true, true], .move (.s [false, true, false, true, false]), none⟩])
def c14_o4 : CCode := .trim [[], [false], [true], [false, false, false], [true, false, false], [false, true, false], [true, true, false], [false, false, true], [true, false, true], [false, true, true]] (.ops [
  ⟨some [true, true, false, true, false], .move (.s []), none⟩,
  ⟨some [false, false, true, true, false], .bin .lss (.s [true, true, false, true, false]) (.c (.int .i64 1)), none⟩,
  ⟨some [true, false, true, true, false], .move (.s [false, false, true, true, false]), none⟩,
  ⟨some [false, true, true, true, false], .move (.s []), some ([true, false, true, true, false], false)⟩,
  ⟨some [true, true, true, true, false], .bin .gtr (.s [false, true, true, true, false]) (.c (.int .i64 36)), some ([true, false, true, true, false], false)⟩,
  ⟨some [false, false, false, false, true], .pick (.s [true, false, true, true, false]) (.c (.bool true)) (.s [true, true, true, true, false]), none⟩,
  ⟨some [true, false, false, false, true], .move (.s [false, false, false, false, true]), none⟩,
  ⟨some [false, true, false, false, true], .move (.s []), some ([true, false, false, false, true], false)⟩,
  ⟨some [true, true, false, false, true], .move (.s [false]), some ([true, false, false, false, true], false)⟩,
  ⟨some [false, false, true, false, true], .move (.s [true]), some ([true, false, false, false, true], false)⟩,
  ⟨some [true, false, true, false, true], .call false (.c (.func 30 [])) [(.s [false, true, false, false, true]), (.s [true, true, false, false, true]), (.s [false, false, true, false, true])], some ([true, false, false, false, true], false)⟩,
  ⟨some [false, true, true, false, true], .un .not (.s [true, false, true, false, true]), some ([true, false, false, false, true], false)⟩,
  ⟨some [true, true, true, false, true], .pick (.s [true, false, false, false, true]) (.c (.bool true)) (.s [false, true, true, false, true]), none⟩])
def c14_o5 : CCode := .trim [[false, false, false], [true, false, false], [false, true, false], [true, true, false], [false, false, true], [true, false, true], [false, true, true]] (.ops [
  ⟨some [false, false, false, true, true], .move (.s [false, false, false]), none⟩,
  ⟨some [true, false, false, true, true], .len 1 (.s [false, false, false, true, true]), none⟩,
  ⟨some [false, true, false, true, true], .bin .eql (.s [true, false, false, true, true]) (.c (.int .i64 0)), none⟩,
  ⟨some [true, true, false, true, true], .move (.s [false, true, false, true, true]), none⟩,
  ⟨some [false, false, true, true, true], .move (.s [true, false, false]), some ([true, true, false, true, true], true)⟩,
  ⟨some [true, false, true, true, true], .bin .eql (.s [false, false, true, true, true]) (.c (.int .i64 2)), some ([true, true, false, true, true], true)⟩,
  ⟨some [false, true, true, true, true], .pick (.s [true, true, false, true, true]) (.s [true, false, true, true, true]) (.c (.bool false)), none⟩,
  ⟨some [true, true, true, true, true], .move (.s [false, true, true, true, true]), none⟩,
  ⟨some [false, false, false, false, false, false], .load (some 2) (.s [false, true, false]), some ([true, true, true, true, true], true)⟩,
  ⟨some [true, false, false, false, false, false], .build [.int .i64 0, .int .i64 0] [], some ([true, true, true, true, true], true)⟩,
  ⟨some [false, true, false, false, false, false], .eqa [.i .i64, .i .i64] false (.s [false, false, false, false, false, false]) (.s [true, false, false, false, false, false]), some ([true, true, true, true, true], true)⟩,
  ⟨some [true, true, false, false, false, false], .pick (.s [true, true, true, true, true]) (.s [false, true, false, false, false, false]) (.c (.bool false)), none⟩,
  ⟨some [false, false, true, false, false, false], .move (.s [true, true, false, false, false, false]), none⟩,
  ⟨some [true, false, true, false, false, false], .move (.s [true, true, false]), some ([false, false, true, false, false, false], true)⟩,
  ⟨some [false, true, true, false, false, false], .bin .eql (.s [true, false, true, false, false, false]) (.c (.int .i64 0)), some ([false, false, true, false, false, false], true)⟩,
  ⟨some [true, true, true, false, false, false], .pick (.s [false, false, true, false, false, false]) (.s [false, true, true, false, false, false]) (.c (.bool false)), none⟩,
  ⟨some [false, false, false, true, false, false], .move (.s [true, true, true, false, false, false]), none⟩,
  ⟨some [true, false, false, true, false, false], .move (.s [false, false, true]), some ([false, false, false, true, false, false], true)⟩,
  ⟨some [false, true, false, true, false, false], .bin .eql (.s [true, false, false, true, false, false]) (.c (.int .i64 2)), some ([false, false, false, true, false, false], true)⟩,
  ⟨some [true, true, false, true, false, false], .pick (.s [false, false, false, true, false, false]) (.s [false, true, false, true, false, false]) (.c (.bool false)), none⟩,
  ⟨some [false, false, true, true, false, false], .move (.s [true, true, false, true, false, false]), none⟩,
  ⟨some [true, false, true, true, false, false], .fieldAddr 0 (.s [true, false, true]), some ([false, false, true, true, false, false], true)⟩,
  ⟨some [false, true, true, true, false, false], .load none (.s [true, false, true, true, false, false]), some ([false, false, true, true, false, false], true)⟩,
  ⟨some [true, true, true, true, false, false], .len 1 (.s [false, true, true, true, false, false]), some ([false, false, true, true, false, false], true)⟩,
  ⟨some [false, false, false, false, true, false], .bin .eql (.s [true, true, true, true, false, false]) (.c (.int .i64 0)), some ([false, false, true, true, false, false], true)⟩,
  ⟨some [true, false, false, false, true, false], .pick (.s [false, false, true, true, false, false]) (.s [false, false, false, false, true, false]) (.c (.bool false)), none⟩,
  ⟨some [false, true, false, false, true, false], .move (.s [true, false, false, false, true, false]), none⟩,
  ⟨some [true, true, false, false, true, false], .fieldAddr 1 (.s [true, false, true]), some ([false, true, false, false, true, false], true)⟩,
  ⟨some [false, false, true, false, true, false], .load none (.s [true, true, false, false, true, false]), some ([false, true, false, false, true, false], true)⟩,
  ⟨some [true, false, true, false, true, false], .len 1 (.s [false, false, true, false, true, false]), some ([false, true, false, false, true, false], true)⟩,
  ⟨some [false, true, true, false, true, false], .bin .eql (.s [true, false, true, false, true, false]) (.c (.int .i64 0)), some ([false, true, false, false, true, false], true)⟩,
  ⟨some [true, true, true, false, true, false], .pick (.s [false, true, false, false, true, false]) (.s [false, true, true, false, true, false]) (.c (.bool false)), none⟩,
  ⟨some [false, false, false, true, true, false], .move (.s [true, true, true, false, true, false]), none⟩,
  ⟨some [true, false, false, true, true, false], .move (.s [false, true, true]), some ([false, false, false, true, true, false], true)⟩,
  ⟨some [false, true, false, true, true, false], .bin .eql (.s [true, false, false, true, true, false]) (.c (.int .i64 2)), some ([false, false, false, true, true, false], true)⟩,
  ⟨some [true, true, false, true, true, false], .pick (.s [false, false, false, true, true, false]) (.s [false, true, false, true, true, false]) (.c (.bool false)), none⟩,
  ⟨some [false, false, true, true, true, false], .move (.s [true, true, false, true, true, false]), none⟩,
  ⟨some [true, false, true, true, true, false], .call false (.c (.func 20 [])) [], some ([false, false, true, true, true, false], true)⟩,
  ⟨some [false, true, true, true, true, false], .pick (.s [false, false, true, true, true, false]) (.s [true, false, true, true, true, false]) (.c (.bool false)), none⟩,
  ⟨some [true, true], .move (.s [false, true, true, true, true, false]), none⟩])
def c14_o6 : CCode := .trim [[], [false], [true], [false, false, false], [true, false, false], [false, true, false], [true, true, false], [false, false, true], [true, false, true], [false, true, true]] (.ops [
  ⟨some [true, true, true, true, true, false], .move (.s [false]), none⟩,
  ⟨some [false, false, false, false, false, true], .move (.s [true]), none⟩,
  ⟨some [true, false, false, false, false, true], .call false (.c (.func 44 [])) [(.s [true, true, true, true, true, false]), (.s [false, false, false, false, false, true])], none⟩,
  ⟨some [true, true, true], .alloc none [.nils, .nils], none⟩,
  ⟨none, .store 2 (.s [true, true, true]) (.s [true, false, false, false, false, true]), none⟩])
def c14_o7 : CCode := .trim [[], [false], [true], [false, false, false], [true, false, false], [false, true, false], [true, true, false], [false, false, true], [true, false, true], [false, true, true], [true, true, true]] (.ops [
  ⟨some [false, true, false, false, false, true], .move (.s [false, false, false]), none⟩,
  ⟨some [true, true, false, false, false, true], .len 1 (.s [false, true, false, false, false, true]), none⟩,
  ⟨some [false, false, true, false, false, true], .move (.s []), none⟩,
  ⟨some [true, false, true, false, false, true], .bin .add (.s [false, false, true, false, false, true]) (.c (.int .i64 1)), none⟩,
  ⟨some [false, true, true, false, false, true], .bin .neq (.s [true, true, false, false, false, true]) (.s [true, false, true, false, false, true]), none⟩,
  ⟨some [true, true, true, false, false, true], .move (.s [false, true, true, false, false, true]), none⟩,
  ⟨some [false, false, false, true, false, true], .move (.s [true, false, false]), some ([true, true, true, false, false, true], false)⟩,
  ⟨some [true, false, false, true, false, true], .bin .neq (.s [false, false, false, true, false, true]) (.c (.int .i64 0)), some ([true, true, true, false, false, true], false)⟩,
  ⟨some [false, true, false, true, false, true], .pick (.s [true, true, true, false, false, true]) (.c (.bool true)) (.s [true, false, false, true, false, true]), none⟩,
  ⟨some [true, true, false, true, false, true], .move (.s [false, true, false, true, false, true]), none⟩,
  ⟨some [false, false, true, true, false, true], .move (.s [false, false, true]), some ([true, true, false, true, false, true], false)⟩,
  ⟨some [true, false, true, true, false, true], .bin .neq (.s [false, false, true, true, false, true]) (.c (.int .i64 0)), some ([true, true, false, true, false, true], false)⟩,
  ⟨some [false, true, true, true, false, true], .pick (.s [true, true, false, true, false, true]) (.c (.bool true)) (.s [true, false, true, true, false, true]), none⟩,
  ⟨some [true, true, true, true, false, true], .move (.s [false, true, true, true, false, true]), none⟩,
  ⟨some [false, false, false, false, true, true], .move (.s [false, true, true]), some ([true, true, true, true, false, true], false)⟩,
  ⟨some [true, false, false, false, true, true], .bin .neq (.s [false, false, false, false, true, true]) (.c (.int .i64 0)), some ([true, true, true, true, false, true], false)⟩,
  ⟨some [false, true, false, false, true, true], .pick (.s [true, true, true, true, false, true]) (.c (.bool true)) (.s [true, false, false, false, true, true]), none⟩,
  ⟨some [true, true, false, false, true, true], .move (.s [false, true, false, false, true, true]), none⟩,
  ⟨some [false, false, true, false, true, true], .fieldAddr 0 (.s [true, false, true]), some ([true, true, false, false, true, true], false)⟩,
  ⟨some [true, false, true, false, true, true], .load none (.s [false, false, true, false, true, true]), some ([true, true, false, false, true, true], false)⟩,
  ⟨some [false, true, true, false, true, true], .fieldAddr 0 (.s [true, true, true]), some ([true, true, false, false, true, true], false)⟩,
  ⟨some [true, true, true, false, true, true], .load none (.s [false, true, true, false, true, true]), some ([true, true, false, false, true, true], false)⟩,
  ⟨some [false, false, false, true, true, true], .call false (.c (.func 45 [])) [(.s [true, false, true, false, true, true]), (.s [true, true, true, false, true, true])], some ([true, true, false, false, true, true], false)⟩,
  ⟨some [true, false, false, true, true, true], .un .not (.s [false, false, false, true, true, true]), some ([true, true, false, false, true, true], false)⟩,
  ⟨some [false, true, false, true, true, true], .pick (.s [true, true, false, false, true, true]) (.c (.bool true)) (.s [true, false, false, true, true, true]), none⟩,
  ⟨some [true, true, false, true, true, true], .move (.s [false, true, false, true, true, true]), none⟩,
  ⟨some [false, false, true, true, true, true], .fieldAddr 1 (.s [true, false, true]), some ([true, true, false, true, true, true], false)⟩,
  ⟨some [true, false, true, true, true, true], .load none (.s [false, false, true, true, true, true]), some ([true, true, false, true, true, true], false)⟩,
  ⟨some [false, true, true, true, true, true], .fieldAddr 1 (.s [true, true, true]), some ([true, true, false, true, true, true], false)⟩,
  ⟨some [true, true, true, true, true, true], .load none (.s [false, true, true, true, true, true]), some ([true, true, false, true, true, true], false)⟩,
  ⟨some [false, false, false, false, false, false, false], .call false (.c (.func 45 [])) [(.s [true, false, true, true, true, true]), (.s [true, true, true, true, true, true])], some ([true, true, false, true, true, true], false)⟩,
  ⟨some [true, false, false, false, false, false, false], .un .not (.s [false, false, false, false, false, false, false]), some ([true, true, false, true, true, true], false)⟩,
  ⟨some [false, true, false, false, false, false, false], .pick (.s [true, true, false, true, true, true]) (.c (.bool true)) (.s [true, false, false, false, false, false, false]), none⟩])
def c14_o8 : CCode := .trim [] (.ops [
  ⟨some [true, true], .move (.c (.bool false)), none⟩])
def c14_o9 : CCode := .trim [[], [false], [true], [false, false, false], [false, true, false], [true, true, false]] (.ops [
  ⟨some [true, true, false, false, false, false, false], .build [.int .i64 0, .int .i64 0] [(0, 1, (.c (.int .i64 0))), (1, 1, (.c (.int .i64 1)))], none⟩,
  ⟨some [false, false, false, false], .alloc none [.int .i64 0, .int .i64 0], none⟩,
  ⟨none, .store 2 (.s [false, false, false, false]) (.s [true, true, false, false, false, false, false]), none⟩,
  ⟨some [true, false, false, false], .move (.c (.int .i64 0)), none⟩])
def c14_o10 : CCode := .trim [[], [false], [true], [false, false, false], [false, true, false], [true, true, false], [false, false, false, false], [true, false, false, false]] (.ops [
  ⟨some [false, true, false, false], .move (.c (.int .i64 0)), none⟩])
def c14_o11 : CCode := .trim [[], [false], [true], [false, false, false], [false, true, false], [true, true, false], [false, false, false, false], [true, false, false, false], [false, true, false, false]] (.ops [
  ⟨some [false, false, true, false, false, false, false], .move (.s [false, true, false, false]), none⟩,
  ⟨some [true, false, true, false, false, false, false], .move (.s []), none⟩,
  ⟨some [false, true, true, false, false, false, false], .bin .leq (.s [false, false, true, false, false, false, false]) (.s [true, false, true, false, false, false, false]), none⟩])
def c14_o12 : CCode := .trim [[], [false], [true], [false, false, false], [false, true, false], [true, true, false], [false, false, false, false], [true, false, false, false], [false, true, false, false]] (.ops [
  ⟨some [true, false, false, true, false, false, false], .move (.s []), none⟩,
  ⟨some [false, true, false, true, false, false, false], .move (.s [false, true, false, false]), none⟩,
  ⟨some [true, true, false, true, false, false, false], .call false (.c (.func 29 [])) [(.s [true, false, false, true, false, false, false]), (.s [false, true, false, true, false, false, false])], none⟩,
  ⟨some [true, true, false, false], .move (.s [true, true, false, true, false, false, false]), none⟩])
def c14_o13 : CCode := .trim [[], [false], [true], [false, false, false], [false, true, false], [true, true, false], [false, false, false, false], [true, false, false, false], [false, true, false, false], [true, true, false, false]] (.draw 0 [
  ⟨some [false, false, true, true, false, false, false], .move (.s [false, false, false]), none⟩,
  ⟨some [true, false, true, true, false, false, false], .move (.s [false, true, false, false]), none⟩,
  ⟨some [false, true, true, true, false, false, false], .idxSl 2 (.s [false, false, true, true, false, false, false]) (.s [true, false, true, true, false, false, false]), none⟩,
  ⟨some [true, true, true, true, false, false, false], .load (some 2) (.s [false, true, true, true, false, false, false]), none⟩,
  ⟨some [false, false, false, false, true, false, false], .move (.s []), none⟩,
  ⟨some [true, false, false, false, true, false, false], .move (.s [false, true, false, false]), none⟩,
  ⟨some [false, true, false, false, true, false, false], .move (.s [false]), none⟩,
  ⟨some [true, true, false, false, true, false, false], .move (.s [true]), none⟩,
  ⟨some [false, false, true, false, true, false, false], .call false (.c (.func 31 [])) [(.s [false, false, false, false, true, false, false]), (.s [true, false, false, false, true, false, false]), (.s [false, true, false, false, true, false, false]), (.s [true, true, false, false, true, false, false])], none⟩,
  ⟨some [true, false, true, false, true, false, false], .move (.s [true, true, false, false]), none⟩,
  ⟨some [false, true, true, false, true, false, false], .call false (.c (.func 25 [])) [(.s [false, false, true, false, true, false, false]), (.s [true, false, true, false, true, false, false])], none⟩,
  ⟨some [true, true, true, false, true, false, false], .eqa [.i .i64, .i .i64] true (.s [true, true, true, true, false, false, false]) (.s [false, true, true, false, true, false, false]), none⟩]
  [(3, 8), (3, 10)] [[], [], [0, 1], [0, 1, 2], [], [], [], [], [4, 5, 6, 7], [], [4, 5, 6, 7, 8, 9], [0, 1, 2, 3, 4, 5, 6, 7, 8, 9, 10]])
def c14_o14 : CCode := .trim [] (.ops [
  ⟨some [true, true], .move (.c (.bool false)), none⟩])
def c14_o15 : CCode := .trim [[], [false], [true], [false, false, false], [false, true, false], [true, true, false], [false, false, false, false], [true, false, false, false], [false, true, false, false], [true, true, false, false]] (.ops [
  ⟨some [false, false, false, true, true, false, false], .move (.s []), none⟩,
  ⟨some [true, false, false, true, true, false, false], .move (.s [false, true, false, false]), none⟩,
  ⟨some [false, true, false, true, true, false, false], .move (.s [false]), none⟩,
  ⟨some [true, true, false, true, true, false, false], .move (.s [true]), none⟩,
  ⟨some [false, false, true, true, true, false, false], .call false (.c (.func 37 [])) [(.s [false, false, false, true, true, false, false]), (.s [true, false, false, true, true, false, false]), (.s [false, true, false, true, true, false, false]), (.s [true, true, false, true, true, false, false])], none⟩,
  ⟨some [true, false, true, true, true, false, false], .move (.s [true, true, false, false]), none⟩,
  ⟨some [false, true, true, true, true, false, false], .call false (.c (.func 25 [])) [(.s [false, false, true, true, true, false, false]), (.s [true, false, true, true, true, false, false])], none⟩,
  ⟨some [false, false, true, false], .alloc none [.int .i64 0, .int .i64 0], none⟩,
  ⟨none, .store 2 (.s [false, false, true, false]) (.s [false, true, true, true, true, false, false]), none⟩])
def c14_o16 : CCode := .trim [[], [false], [true], [false, false, false], [false, true, false], [true, true, false], [false, false, false, false], [true, false, false, false], [false, true, false, false], [false, false, true, false]] (.ops [
  ⟨some [true, true, true, true, true, false, false], .load (some 2) (.s [false, false, false, false]), none⟩,
  ⟨some [false, false, false, false, false, true, false], .load (some 2) (.s [false, false, true, false]), none⟩,
  ⟨some [true, false, false, false, false, true, false], .call false (.c (.func 27 [])) [(.s [true, true, true, true, true, false, false]), (.s [false, false, false, false, false, true, false])], none⟩])
def c14_o17 : CCode := .trim [[], [false], [true], [false, false, false], [false, true, false], [true, true, false], [false, false, false, false], [false, true, false, false], [false, false, true, false]] (.ops [
  ⟨some [false, true, false, false, false, true, false], .load (some 2) (.s [false, false, true, false]), none⟩,
  ⟨none, .store 2 (.s [false, false, false, false]) (.s [false, true, false, false, false, true, false]), none⟩])
def c14_o18 : CCode := .trim [[], [false], [true], [false, false, false], [false, true, false], [true, true, false], [false, false, false, false], [false, true, false, false]] (.ops [
  ⟨some [true, true, false, false, false, true, false], .move (.s [false, true, false, false]), none⟩,
  ⟨some [true, false, false, false], .move (.s [true, true, false, false, false, true, false]), none⟩])
def c14_o19 : CCode := .trim [[], [false], [true], [false, false, false], [false, true, false], [true, true, false], [false, false, false, false], [true, false, false, false], [false, true, false, false]] (.ops [
  ⟨some [true, true, true, false, false, false, false], .move (.s [false, true, false, false]), none⟩,
  ⟨some [false, false, false, true, false, false, false], .bin .add (.s [true, true, true, false, false, false, false]) (.c (.int .i64 1)), none⟩,
  ⟨some [false, true, false, false], .move (.s [false, false, false, true, false, false, false]), none⟩])
def c14_b0 : CCode := (.seq (.seq c14_o11
 (.cond (.s [false, true, true, false, false, false, false]) .skip (.exit 0)))
 (.seq (.block 1 (.seq c14_o12
 (.seq (.seq c14_o13
 (.cond (.s [true, true, true, false, true, false, false]) (.seq c14_o14
 .ret) .skip))
 (.seq c14_o15
 (.seq c14_o16
 (.cond (.s [true, false, false, false, false, true, false]) (.seq c14_o17
 c14_o18) .skip))))))
 c14_o19))
def c14_l0 : CCode := .loop [[], [false], [true], [false, false, false], [false, true, false], [true, true, false], [false, false, false, false], [true, false, false, false], [false, true, false, false]] c14_b0
def c14_o20 : CCode := .trim [[false, true, false], [true, true, false], [false, false, false, false], [true, false, false, false]] (.ops [
  ⟨some [false, false, true, false, false, true, false], .load (some 2) (.s [false, true, false]), none⟩,
  ⟨some [true, false, true, false, false, true, false], .load (some 2) (.s [false, false, false, false]), none⟩,
  ⟨some [false, true, true, false, false, true, false], .eqa [.i .i64, .i .i64] false (.s [false, false, true, false, false, true, false]) (.s [true, false, true, false, false, true, false]), none⟩,
  ⟨some [true, true, true, false, false, true, false], .move (.s [false, true, true, false, false, true, false]), none⟩,
  ⟨some [false, false, false, true, false, true, false], .move (.s [true, true, false]), some ([true, true, true, false, false, true, false], true)⟩,
  ⟨some [true, false, false, true, false, true, false], .move (.s [true, false, false, false]), some ([true, true, true, false, false, true, false], true)⟩,
  ⟨some [false, true, false, true, false, true, false], .bin .eql (.s [false, false, false, true, false, true, false]) (.s [true, false, false, true, false, true, false]), some ([true, true, true, false, false, true, false], true)⟩,
  ⟨some [true, true, false, true, false, true, false], .pick (.s [true, true, true, false, false, true, false]) (.s [false, true, false, true, false, true, false]) (.c (.bool false)), none⟩,
  ⟨some [false, false, true, true, false, true, false], .move (.s [true, true, false, true, false, true, false]), none⟩,
  ⟨some [true, false, true, true, false, true, false], .call false (.c (.func 20 [])) [], some ([false, false, true, true, false, true, false], true)⟩,
  ⟨some [false, true, true, true, false, true, false], .pick (.s [false, false, true, true, false, true, false]) (.s [true, false, true, true, false, true, false]) (.c (.bool false)), none⟩,
  ⟨some [true, true], .move (.s [false, true, true, true, false, true, false]), none⟩])
def c14 : CFunc := { params := [[], [false], [true]], results := [.slot [true, true]], shared := false, body := (.seq c14_o0
 (.seq c14_o1
 (.seq c14_o2
 (.seq c14_o3
 (.seq (.seq c14_o4
 (.cond (.s [true, true, true, false, true]) (.seq c14_o5
 .ret) .skip))
 (.seq c14_o6
 (.seq (.seq c14_o7
 (.cond (.s [false, true, false, false, false, false, false]) (.seq c14_o8
 .ret) .skip))
 (.seq c14_o9
 (.seq (.seq c14_o10
 (.block 0 c14_l0))
 (.seq c14_o20
 .ret)))))))))) }
-- numnah/numnahlaw05.SampleDoubles
-- c15_o0: 0=[] 1=[f] 2=[t]
-- c15_o1: 0=[] 1=[f] 5=[f, t]
-- c15_o2: 0=[] 1=[f] 5=[f, t] 7=[f, f, f] 8=[t, f, f] 9=[f, t, f]
-- c15_o3: 0=[] 1=[f] 5=[f, t] 7=[f, f, f] 8=[t, f, f] 9=[f, t, f] 10=[t, t, f] 11=[f, f, t]
-- c15_o4: 0=[] 1=[f] 5=[f, t] 7=[f, f, f] 8=[t, f, f] 9=[f, t, f] 10=[t, t, f] 11=[f, f, t] 12=[t, f, t]
-- c15_o5: 0=[] 1=[f] 5=[f, t] 7=[f, f, f] 8=[t, f, f] 9=[f, t, f] 10=[t, t, f] 11=[f, f, t] 12=[t, f, t]
-- c15_o6: 
-- c15_o7: 0=[] 1=[f] 5=[f, t] 7=[f, f, f] 8=[t, f, f] 9=[f, t, f] 10=[t, t, f] 11=[f, f, t] 12=[t, f, t]
-- c15_o8: 
-- c15_o9: 0=[] 1=[f] 5=[f, t] 7=[f, f, f] 8=[t, f, f] 9=[f, t, f] 12=[t, f, t]
-- c15_o10: 7=[f, f, f] 8=[t, f, f] 9=[f, t, f]
-- c15_o11: 0=[] 1=[f] 5=[f, t] 7=[f, f, f] 8=[t, f, f] 9=[f, t, f]
-- c15_o12: 0=[] 1=[f] 7=[f, f, f] 8=[t, f, f] 9=[f, t, f] 13=[f, t, t] 14=[t, t, t]
-- c15_o13: 7=[f, f, f] 8=[t, f, f] 9=[f, t, f] 13=[f, t, t] 14=[t, t, t] 15=[f, f, f, f]
def c15_o0 : CCode := .trim [[], [false], [true]] (.ops [
  ⟨some [false, true], .box none (.s [true]), none⟩,
  ⟨some [true, true], .move (.c (.bool false)), none⟩])
def c15_o1 : CCode := .trim [[], [false], [false, true]] (.ops [
  ⟨some [false, true, false, false], .move (.s []), none⟩,
  ⟨some [true, true, false, false], .move (.s [false]), none⟩,
  ⟨some [false, false, true, false], .load (some 5) (.s [false, true]), none⟩,
  ⟨some [true, false, true, false], .call false (.c (.func 46 [])) [(.s [false, true, false, false]), (.s [true, true, false, false]), (.s [false, false, true, false])], none⟩,
  ⟨some [true, false, false, false], .move (.s [true, false, true, false]), none⟩,
  ⟨some [false, true, true, false], .extract 0 (.s [true, false, false, false]), none⟩,
  ⟨some [true, true, true, false], .extract 1 (.s [true, false, false, false]), none⟩,
  ⟨some [false, false, false, true], .extract 2 (.s [true, false, false, false]), none⟩,
  ⟨some [false, false, false], .alloc none [.int .i64 0, .int .i64 0], none⟩,
  ⟨some [true, false, false], .alloc none [.int .i64 0, .int .i64 0], none⟩,
  ⟨none, .store 2 (.s [false, false, false]) (.s [false, true, true, false]), none⟩,
  ⟨none, .store 2 (.s [true, false, false]) (.s [true, true, true, false]), none⟩,
  ⟨some [false, true, false], .move (.s [false, false, false, true]), none⟩])
def c15_o2 : CCode := .trim [[], [false], [false, true], [false, false, false], [true, false, false], [false, true, false]] (.ops [
  ⟨some [false, true, false, true], .move (.s []), none⟩,
  ⟨some [true, true, false, true], .load (some 5) (.s [false, true]), none⟩,
  ⟨some [false, false, true, true], .call false (.c (.func 47 [])) [(.s [false, true, false, true]), (.s [true, true, false, true])], none⟩,
  ⟨some [true, false, false, true], .move (.s [false, false, true, true]), none⟩,
  ⟨some [true, false, true, true], .extract 0 (.s [true, false, false, true]), none⟩,
  ⟨some [false, true, true, true], .extract 1 (.s [true, false, false, true]), none⟩,
  ⟨some [true, true, false], .alloc none [.nils, .nils], none⟩,
  ⟨none, .store 2 (.s [true, true, false]) (.s [true, false, true, true]), none⟩,
  ⟨some [false, false, true], .move (.s [false, true, true, true]), none⟩])
def c15_o3 : CCode := .trim [[], [false], [false, true], [false, false, false], [true, false, false], [false, true, false], [true, true, false], [false, false, true]] (.ops [
  ⟨some [true, true, true, true], .move (.s []), none⟩,
  ⟨some [false, false, false, false, false], .bin .geq (.s [true, true, true, true]) (.c (.int .i64 1)), none⟩,
  ⟨some [true, false, false, false, false], .move (.s [false, false, false, false, false]), none⟩,
  ⟨some [false, true, false, false, false], .move (.s []), some ([true, false, false, false, false], true)⟩,
  ⟨some [true, true, false, false, false], .bin .leq (.s [false, true, false, false, false]) (.c (.int .i64 36)), some ([true, false, false, false, false], true)⟩,
  ⟨some [false, false, true, false, false], .pick (.s [true, false, false, false, false]) (.s [true, true, false, false, false]) (.c (.bool false)), none⟩,
  ⟨some [true, false, true, false, false], .move (.s [false, false, true, false, false]), none⟩,
  ⟨some [false, true, true, false, false], .move (.s []), some ([true, false, true, false, false], true)⟩,
  ⟨some [true, true, true, false, false], .load (some 5) (.s [false, true]), some ([true, false, true, false, false], true)⟩,
  ⟨some [false, false, false, true, false], .call false (.c (.func 48 [])) [(.s [false, true, true, false, false]), (.s [true, true, true, false, false])], some ([true, false, true, false, false], true)⟩,
  ⟨some [true, false, false, true, false], .pick (.s [true, false, true, false, false]) (.s [false, false, false, true, false]) (.c (.bool false)), none⟩,
  ⟨some [true, false, true], .move (.s [true, false, false, true, false]), none⟩])
def c15_o4 : CCode := .trim [[], [false], [false, true], [false, false, false], [true, false, false], [false, true, false], [true, true, false], [false, false, true], [true, false, true]] (.ops [
  ⟨some [false, true, false, true, false], .move (.s [true, false, true]), none⟩,
  ⟨some [true, true, false, true, false], .un .not (.s [false, true, false, true, false]), none⟩])
def c15_o5 : CCode := .trim [[], [false], [false, true], [false, false, false], [true, false, false], [false, true, false], [true, true, false], [false, false, true], [true, false, true]] (.ops [
  ⟨some [false, false, true, true, false], .fieldAddr 0 (.s [true, true, false]), none⟩,
  ⟨some [true, false, true, true, false], .load none (.s [false, false, true, true, false]), none⟩,
  ⟨some [false, true, true, true, false], .len 1 (.s [true, false, true, true, false]), none⟩,
  ⟨some [true, true, true, true, false], .bin .neq (.s [false, true, true, true, false]) (.c (.int .i64 0)), none⟩,
  ⟨some [false, false, false, false, true], .move (.s [true, true, true, true, false]), none⟩,
  ⟨some [true, false, false, false, true], .fieldAddr 1 (.s [true, true, false]), some ([false, false, false, false, true], false)⟩,
  ⟨some [false, true, false, false, true], .load none (.s [true, false, false, false, true]), some ([false, false, false, false, true], false)⟩,
  ⟨some [true, true, false, false, true], .len 1 (.s [false, true, false, false, true]), some ([false, false, false, false, true], false)⟩,
  ⟨some [false, false, true, false, true], .bin .neq (.s [true, true, false, false, true]) (.c (.int .i64 0)), some ([false, false, false, false, true], false)⟩,
  ⟨some [true, false, true, false, true], .pick (.s [false, false, false, false, true]) (.c (.bool true)) (.s [false, false, true, false, true]), none⟩,
  ⟨some [false, true, true, false, true], .move (.s [true, false, true, false, true]), none⟩,
  ⟨some [true, true, true, false, true], .move (.s [false, false, true]), some ([false, true, true, false, true], false)⟩,
  ⟨some [false, false, false, true, true], .bin .neq (.s [true, true, true, false, true]) (.c (.int .i64 2)), some ([false, true, true, false, true], false)⟩,
  ⟨some [true, false, false, true, true], .pick (.s [false, true, true, false, true]) (.c (.bool true)) (.s [false, false, false, true, true]), none⟩])
def c15_o6 : CCode := .trim [] (.ops [
  ⟨some [true, true], .move (.c (.bool false)), none⟩])
def c15_o7 : CCode := .trim [[], [false], [false, true], [false, false, false], [true, false, false], [false, true, false], [true, true, false], [false, false, true], [true, false, true]] (.ops [
  ⟨some [false, true, false, true, true], .move (.s [false, false, true]), none⟩,
  ⟨some [true, true, false, true, true], .bin .neq (.s [false, true, false, true, true]) (.c (.int .i64 0)), none⟩,
  ⟨some [false, false, true, true, true], .move (.s [true, true, false, true, true]), none⟩,
  ⟨some [true, false, true, true, true], .move (.s []), some ([false, false, true, true, true], false)⟩,
  ⟨some [false, true, true, true, true], .load (some 2) (.s [true, true, false]), some ([false, false, true, true, true], false)⟩,
  ⟨some [true, true, true, true, true], .call false (.c (.func 40 [])) [(.s [true, false, true, true, true]), (.s [false, true, true, true, true])], some ([false, false, true, true, true], false)⟩,
  ⟨some [false, false, false, false, false, false], .un .not (.s [true, true, true, true, true]), some ([false, false, true, true, true], false)⟩,
  ⟨some [true, false, false, false, false, false], .pick (.s [false, false, true, true, true]) (.c (.bool true)) (.s [false, false, false, false, false, false]), none⟩,
  ⟨some [false, true, false, false, false, false], .move (.s [true, false, false, false, false, false]), none⟩,
  ⟨some [true, true, false, false, false, false], .fieldAddr 0 (.s [true, true, false]), some ([false, true, false, false, false, false], false)⟩,
  ⟨some [false, false, true, false, false, false], .load none (.s [true, true, false, false, false, false]), some ([false, true, false, false, false, false], false)⟩,
  ⟨some [true, false, true, false, false, false], .len 1 (.s [false, false, true, false, false, false]), some ([false, true, false, false, false, false], false)⟩,
  ⟨some [false, true, true, false, false, false], .idxArr 5 1 (.s [false, true]) (.c (.int .i64 0)), some ([false, true, false, false, false, false], false)⟩,
  ⟨some [true, true, true, false, false, false], .load none (.s [false, true, true, false, false, false]), some ([false, true, false, false, false, false], false)⟩,
  ⟨some [false, false, false, true, false, false], .idxArr 5 1 (.s [false, true]) (.c (.int .i64 3)), some ([false, true, false, false, false, false], false)⟩,
  ⟨some [true, false, false, true, false, false], .load none (.s [false, false, false, true, false, false]), some ([false, true, false, false, false, false], false)⟩,
  ⟨some [false, true, false, true, false, false], .bin .add (.s [true, true, true, false, false, false]) (.s [true, false, false, true, false, false]), some ([false, true, false, false, false, false], false)⟩,
  ⟨some [true, true, false, true, false, false], .bin .neq (.s [true, false, true, false, false, false]) (.s [false, true, false, true, false, false]), some ([false, true, false, false, false, false], false)⟩,
  ⟨some [false, false, true, true, false, false], .pick (.s [false, true, false, false, false, false]) (.c (.bool true)) (.s [true, true, false, true, false, false]), none⟩,
  ⟨some [true, false, true, true, false, false], .move (.s [false, false, true, true, false, false]), none⟩,
  ⟨some [false, true, true, true, false, false], .load (some 5) (.s [false, true]), some ([true, false, true, true, false, false], false)⟩,
  ⟨some [true, true, true, true, false, false], .load (some 2) (.s [true, true, false]), some ([true, false, true, true, false, false], false)⟩,
  ⟨some [false, false, false, false, true, false], .call false (.c (.func 49 [])) [(.s [false, true, true, true, false, false]), (.s [true, true, true, true, false, false])], some ([true, false, true, true, false, false], false)⟩,
  ⟨some [true, false, false, false, true, false], .un .not (.s [false, false, false, false, true, false]), some ([true, false, true, true, false, false], false)⟩,
  ⟨some [false, true, false, false, true, false], .pick (.s [true, false, true, true, false, false]) (.c (.bool true)) (.s [true, false, false, false, true, false]), none⟩])
def c15_o8 : CCode := .trim [] (.ops [
  ⟨some [true, true], .move (.c (.bool false)), none⟩])
def c15_o9 : CCode := .trim [[], [false], [false, true], [false, false, false], [true, false, false], [false, true, false], [true, false, true]] (.ops [
  ⟨some [true, true, false, false, true, false], .move (.s [true, false, true]), none⟩,
  ⟨some [false, false, true, false, true, false], .un .not (.s [true, true, false, false, true, false]), none⟩,
  ⟨some [true, false, true, false, true, false], .move (.s [false, false, true, false, true, false]), none⟩,
  ⟨some [false, true, true, false, true, false], .move (.s []), some ([true, false, true, false, true, false], false)⟩,
  ⟨some [true, true, true, false, true, false], .move (.s [false]), some ([true, false, true, false, true, false], false)⟩,
  ⟨some [false, false, false, true, true, false], .call false (.c (.func 18 [])) [(.s [false, true, true, false, true, false]), (.s [true, true, true, false, true, false])], some ([true, false, true, false, true, false], false)⟩,
  ⟨some [true, false, false, true, true, false], .un .not (.s [false, false, false, true, true, false]), some ([true, false, true, false, true, false], false)⟩,
  ⟨some [false, true, false, true, true, false], .pick (.s [true, false, true, false, true, false]) (.c (.bool true)) (.s [true, false, false, true, true, false]), none⟩])
def c15_o10 : CCode := .trim [[false, false, false], [true, false, false], [false, true, false]] (.ops [
  ⟨some [true, true, false, true, true, false], .load (some 2) (.s [false, false, false]), none⟩,
  ⟨some [false, false, true, true, true, false], .build [.int .i64 0, .int .i64 0] [], none⟩,
  ⟨some [true, false, true, true, true, false], .eqa [.i .i64, .i .i64] false (.s [true, true, false, true, true, false]) (.s [false, false, true, true, true, false]), none⟩,
  ⟨some [false, true, true, true, true, false], .move (.s [true, false, true, true, true, false]), none⟩,
  ⟨some [true, true, true, true, true, false], .load (some 2) (.s [true, false, false]), some ([false, true, true, true, true, false], true)⟩,
  ⟨some [false, false, false, false, false, true], .build [.int .i64 0, .int .i64 0] [], some ([false, true, true, true, true, false], true)⟩,
  ⟨some [true, false, false, false, false, true], .eqa [.i .i64, .i .i64] false (.s [true, true, true, true, true, false]) (.s [false, false, false, false, false, true]), some ([false, true, true, true, true, false], true)⟩,
  ⟨some [false, true, false, false, false, true], .pick (.s [false, true, true, true, true, false]) (.s [true, false, false, false, false, true]) (.c (.bool false)), none⟩,
  ⟨some [true, true, false, false, false, true], .move (.s [false, true, false, false, false, true]), none⟩,
  ⟨some [false, false, true, false, false, true], .move (.s [false, true, false]), some ([true, true, false, false, false, true], true)⟩,
  ⟨some [true, false, true, false, false, true], .bin .eql (.s [false, false, true, false, false, true]) (.c (.int .i64 2)), some ([true, true, false, false, false, true], true)⟩,
  ⟨some [false, true, true, false, false, true], .pick (.s [true, true, false, false, false, true]) (.s [true, false, true, false, false, true]) (.c (.bool false)), none⟩,
  ⟨some [true, true, true, false, false, true], .move (.s [false, true, true, false, false, true]), none⟩,
  ⟨some [false, false, false, true, false, true], .call false (.c (.func 20 [])) [], some ([true, true, true, false, false, true], true)⟩,
  ⟨some [true, false, false, true, false, true], .pick (.s [true, true, true, false, false, true]) (.s [false, false, false, true, false, true]) (.c (.bool false)), none⟩,
  ⟨some [true, true], .move (.s [true, false, false, true, false, true]), none⟩])
def c15_o11 : CCode := .trim [[], [false], [false, true], [false, false, false], [true, false, false], [false, true, false]] (.ops [
  ⟨some [true, true, false, true, false, true], .move (.s []), none⟩,
  ⟨some [false, false, true, true, false, true], .move (.s [false]), none⟩,
  ⟨some [true, false, true, true, false, true], .load (some 5) (.s [false, true]), none⟩,
  ⟨some [false, true, true, true, false, true], .call false (.c (.func 50 [])) [(.s [true, true, false, true, false, true]), (.s [false, false, true, true, false, true]), (.s [true, false, true, true, false, true])], none⟩,
  ⟨some [false, true, false, true, false, true], .move (.s [false, true, true, true, false, true]), none⟩,
  ⟨some [true, true, true, true, false, true], .extract 0 (.s [false, true, false, true, false, true]), none⟩,
  ⟨some [false, false, false, false, true, true], .extract 1 (.s [false, true, false, true, false, true]), none⟩,
  ⟨some [false, true, true], .move (.s [true, true, true, true, false, true]), none⟩,
  ⟨some [true, true, true], .move (.s [false, false, false, false, true, true]), none⟩])
def c15_o12 : CCode := .trim [[], [false], [false, false, false], [true, false, false], [false, true, false], [false, true, true], [true, true, true]] (.ops [
  ⟨some [true, false, false, false, true, true], .move (.s []), none⟩,
  ⟨some [false, true, false, false, true, true], .move (.s [false]), none⟩,
  ⟨some [true, true, false, false, true, true], .call false (.c (.func 29 [])) [(.s [true, false, false, false, true, true]), (.s [false, true, false, false, true, true])], none⟩,
  ⟨some [false, false, false, false], .move (.s [true, true, false, false, true, true]), none⟩])
def c15_o13 : CCode := .trim [[false, false, false], [true, false, false], [false, true, false], [false, true, true], [true, true, true], [false, false, false, false]] (.draw 0 [
  ⟨some [false, false, true, false, true, true], .load (some 2) (.s [false, false, false]), none⟩,
  ⟨some [true, false, true, false, true, true], .move (.s [false, true, true]), none⟩,
  ⟨some [false, true, true, false, true, true], .move (.s [false, false, false, false]), none⟩,
  ⟨some [true, true, true, false, true, true], .call false (.c (.func 25 [])) [(.s [true, false, true, false, true, true]), (.s [false, true, true, false, true, true])], none⟩,
  ⟨some [false, false, false, true, true, true], .eqa [.i .i64, .i .i64] false (.s [false, false, true, false, true, true]) (.s [true, true, true, false, true, true]), none⟩,
  ⟨some [true, false, false, true, true, true], .move (.s [false, false, false, true, true, true]), none⟩,
  ⟨some [false, true, false, true, true, true], .load (some 2) (.s [true, false, false]), some ([true, false, false, true, true, true], true)⟩,
  ⟨some [true, true, false, true, true, true], .move (.s [true, true, true]), some ([true, false, false, true, true, true], true)⟩,
  ⟨some [false, false, true, true, true, true], .move (.s [false, false, false, false]), some ([true, false, false, true, true, true], true)⟩,
  ⟨some [true, false, true, true, true, true], .call false (.c (.func 25 [])) [(.s [true, true, false, true, true, true]), (.s [false, false, true, true, true, true])], some ([true, false, false, true, true, true], true)⟩,
  ⟨some [false, true, true, true, true, true], .eqa [.i .i64, .i .i64] false (.s [false, true, false, true, true, true]) (.s [true, false, true, true, true, true]), some ([true, false, false, true, true, true], true)⟩,
  ⟨some [true, true, true, true, true, true], .pick (.s [true, false, false, true, true, true]) (.s [false, true, true, true, true, true]) (.c (.bool false)), none⟩,
  ⟨some [false, false, false, false, false, false, false], .move (.s [true, true, true, true, true, true]), none⟩,
  ⟨some [true, false, false, false, false, false, false], .move (.s [false, true, false]), some ([false, false, false, false, false, false, false], true)⟩,
  ⟨some [false, true, false, false, false, false, false], .bin .eql (.s [true, false, false, false, false, false, false]) (.c (.int .i64 0)), some ([false, false, false, false, false, false, false], true)⟩,
  ⟨some [true, true, false, false, false, false, false], .pick (.s [false, false, false, false, false, false, false]) (.s [false, true, false, false, false, false, false]) (.c (.bool false)), none⟩,
  ⟨some [false, false, true, false, false, false, false], .move (.s [true, true, false, false, false, false, false]), none⟩,
  ⟨some [true, false, true, false, false, false, false], .call false (.c (.func 20 [])) [], some ([false, false, true, false, false, false, false], true)⟩,
  ⟨some [false, true, true, false, false, false, false], .pick (.s [false, false, true, false, false, false, false]) (.s [true, false, true, false, false, false, false]) (.c (.bool false)), none⟩,
  ⟨some [true, true], .move (.s [false, true, true, false, false, false, false]), none⟩]
  [(0, 3), (6, 9)] [[], [], [], [1, 2], [0, 1, 2, 3], [0, 1, 2, 3, 4], [0, 1, 2, 3, 4, 5], [0, 1, 2, 3, 4, 5], [0, 1, 2, 3, 4, 5], [0, 1, 2, 3, 4, 5, 7, 8], [0, 1, 2, 3, 4, 5, 6, 7, 8, 9], [0, 1, 2, 3, 4, 5, 6, 7, 8, 9, 10], [0, 1, 2, 3, 4, 5, 6, 7, 8, 9, 10, 11], [0, 1, 2, 3, 4, 5, 6, 7, 8, 9, 10, 11, 12], [0, 1, 2, 3, 4, 5, 6, 7, 8, 9, 10, 11, 12, 13], [0, 1, 2, 3, 4, 5, 6, 7, 8, 9, 10, 11, 12, 13, 14], [0, 1, 2, 3, 4, 5, 6, 7, 8, 9, 10, 11, 12, 13, 14, 15], [0, 1, 2, 3, 4, 5, 6, 7, 8, 9, 10, 11, 12, 13, 14, 15, 16], [0, 1, 2, 3, 4, 5, 6, 7, 8, 9, 10, 11, 12, 13, 14, 15, 16, 17], [0, 1, 2, 3, 4, 5, 6, 7, 8, 9, 10, 11, 12, 13, 14, 15, 16, 17, 18]])
def c15 : CFunc := { params := [[], [false], [true]], results := [.slot [true, true]], shared := false, body := (.seq c15_o0
 (.seq c15_o1
 (.seq c15_o2
 (.seq c15_o3
 (.seq (.seq c15_o4
 (.cond (.s [true, true, false, true, false]) (.seq c15_o5
 (.cond (.s [true, false, false, true, true]) (.seq c15_o6
 .ret) .skip)) (.seq c15_o7
 (.cond (.s [false, true, false, false, true, false]) (.seq c15_o8
 .ret) .skip))))
 (.seq (.seq c15_o9
 (.cond (.s [false, true, false, true, true, false]) (.seq c15_o10
 .ret) .skip))
 (.seq c15_o11
 (.seq c15_o12
 (.seq c15_o13
 .ret))))))))) }
-- numnah/numnahlaw05.SampleMerged
-- c16_o0: 0=[] 1=[f]
-- c16_o1: 1=[f] 2=[t]
-- c16_o2: 1=[f] 5=[f, t] 6=[t, t]
-- c16_o3: 1=[f] 5=[f, t] 6=[t, t]
-- c16_o4: 1=[f] 5=[f, t] 6=[t, t] 7=[f, f, f] 8=[t, f, f]
-- c16_o5: 1=[f] 5=[f, t] 6=[t, t] 7=[f, f, f] 8=[t, f, f] 9=[f, t, f] 10=[t, t, f] 11=[f, f, t]
-- c16_o6: 6=[t, t] 8=[t, f, f] 9=[f, t, f] 10=[t, t, f] 11=[f, f, t] 12=[t, f, t] 13=[f, t, t] 14=[t, t, t]
-- c16_o7: 
-- c16_o8: 6=[t, t] 9=[f, t, f] 10=[t, t, f]
def c16_o0 : CCode := .trim [[], [false]] (.ops [
  ⟨some [true], .box none (.s []), none⟩,
  ⟨some [true, false], .move (.c (.bool false)), none⟩])
def c16_o1 : CCode := .trim [[false], [true]] (.ops [
  ⟨some [true, false, false, false], .load (some 6) (.s [true]), none⟩,
  ⟨some [false, true, false, false], .call false (.c (.func 51 [])) [(.s [true, false, false, false])], none⟩,
  ⟨some [false, false, false, false], .move (.s [false, true, false, false]), none⟩,
  ⟨some [true, true, false, false], .extract 0 (.s [false, false, false, false]), none⟩,
  ⟨some [false, false, true, false], .extract 1 (.s [false, false, false, false]), none⟩,
  ⟨some [true, true], .alloc none [.int .i64 0, .int .i64 0, .int .i64 0, .int .i64 0, .int .i64 0], none⟩,
  ⟨some [false, true], .move (.s [true, true, false, false]), none⟩,
  ⟨none, .store 5 (.s [true, true]) (.s [false, false, true, false]), none⟩])
def c16_o2 : CCode := .trim [[false], [false, true], [true, true]] (.ops [
  ⟨some [true, false, true, false], .move (.s [false]), none⟩,
  ⟨some [false, true, true, false], .move (.s [false, true]), none⟩,
  ⟨some [true, true, true, false], .bin .add (.s [false, true, true, false]) (.c (.int .i64 1)), none⟩,
  ⟨some [false, false, false, true], .call false (.c (.func 24 [])) [(.s [true, false, true, false]), (.s [true, true, true, false])], none⟩,
  ⟨some [false], .move (.s [false, false, false, true]), none⟩])
def c16_o3 : CCode := .trim [[false], [false, true], [true, true]] (.ops [
  ⟨some [false, true, false, true], .move (.s [false, true]), none⟩,
  ⟨some [true, true, false, true], .load (some 5) (.s [true, true]), none⟩,
  ⟨some [false, false, true, true], .call false (.c (.func 47 [])) [(.s [false, true, false, true]), (.s [true, true, false, true])], none⟩,
  ⟨some [true, false, false, true], .move (.s [false, false, true, true]), none⟩,
  ⟨some [true, false, true, true], .extract 0 (.s [true, false, false, true]), none⟩,
  ⟨some [false, true, true, true], .extract 1 (.s [true, false, false, true]), none⟩,
  ⟨some [false, false, false], .alloc none [.nils, .nils], none⟩,
  ⟨none, .store 2 (.s [false, false, false]) (.s [true, false, true, true]), none⟩,
  ⟨some [true, false, false], .move (.s [false, true, true, true]), none⟩])
def c16_o4 : CCode := .trim [[false], [false, true], [true, true], [false, false, false], [true, false, false]] (.ops [
  ⟨some [false, false, false, false, false], .move (.s [false, true]), none⟩,
  ⟨some [true, false, false, false, false], .move (.s [false]), none⟩,
  ⟨some [false, true, false, false, false], .load (some 5) (.s [true, true]), none⟩,
  ⟨some [true, true, false, false, false], .call false (.c (.func 46 [])) [(.s [false, false, false, false, false]), (.s [true, false, false, false, false]), (.s [false, true, false, false, false])], none⟩,
  ⟨some [true, true, true, true], .move (.s [true, true, false, false, false]), none⟩,
  ⟨some [false, false, true, false, false], .extract 0 (.s [true, true, true, true]), none⟩,
  ⟨some [true, false, true, false, false], .extract 1 (.s [true, true, true, true]), none⟩,
  ⟨some [false, true, true, false, false], .extract 2 (.s [true, true, true, true]), none⟩,
  ⟨some [false, true, false], .alloc none [.int .i64 0, .int .i64 0], none⟩,
  ⟨some [true, true, false], .alloc none [.int .i64 0, .int .i64 0], none⟩,
  ⟨none, .store 2 (.s [false, true, false]) (.s [false, false, true, false, false]), none⟩,
  ⟨none, .store 2 (.s [true, true, false]) (.s [true, false, true, false, false]), none⟩,
  ⟨some [false, false, true], .move (.s [false, true, true, false, false]), none⟩])
def c16_o5 : CCode := .trim [[false], [false, true], [true, true], [false, false, false], [true, false, false], [false, true, false], [true, true, false], [false, false, true]] (.ops [
  ⟨some [false, false, false, true, false], .move (.s [false, true]), none⟩,
  ⟨some [true, false, false, true, false], .move (.s [false]), none⟩,
  ⟨some [false, true, false, true, false], .load (some 2) (.s [false, false, false]), none⟩,
  ⟨some [true, true, false, true, false], .call false (.c (.func 34 [])) [(.s [false, false, false, true, false]), (.s [true, false, false, true, false]), (.s [false, true, false, true, false])], none⟩,
  ⟨some [true, true, true, false, false], .move (.s [true, true, false, true, false]), none⟩,
  ⟨some [false, false, true, true, false], .extract 0 (.s [true, true, true, false, false]), none⟩,
  ⟨some [true, false, true, true, false], .extract 1 (.s [true, true, true, false, false]), none⟩,
  ⟨some [false, true, true, true, false], .extract 2 (.s [true, true, true, false, false]), none⟩,
  ⟨some [true, false, true], .alloc none [.int .i64 0, .int .i64 0], none⟩,
  ⟨some [false, true, true], .alloc none [.int .i64 0, .int .i64 0], none⟩,
  ⟨none, .store 2 (.s [true, false, true]) (.s [false, false, true, true, false]), none⟩,
  ⟨none, .store 2 (.s [false, true, true]) (.s [true, false, true, true, false]), none⟩,
  ⟨some [true, true, true], .move (.s [false, true, true, true, false]), none⟩])
def c16_o6 : CCode := .trim [[true, true], [true, false, false], [false, true, false], [true, true, false], [false, false, true], [true, false, true], [false, true, true], [true, true, true]] (.ops [
  ⟨some [true, true, true, true, false], .move (.s [true, false, false]), none⟩,
  ⟨some [false, false, false, false, true], .bin .neq (.s [true, true, true, true, false]) (.c (.int .i64 0)), none⟩,
  ⟨some [true, false, false, false, true], .move (.s [false, false, false, false, true]), none⟩,
  ⟨some [false, true, false, false, true], .move (.s [false, false, true]), some ([true, false, false, false, true], false)⟩,
  ⟨some [true, true, false, false, true], .bin .neq (.s [false, true, false, false, true]) (.c (.int .i64 0)), some ([true, false, false, false, true], false)⟩,
  ⟨some [false, false, true, false, true], .pick (.s [true, false, false, false, true]) (.c (.bool true)) (.s [true, true, false, false, true]), none⟩,
  ⟨some [true, false, true, false, true], .move (.s [false, false, true, false, true]), none⟩,
  ⟨some [false, true, true, false, true], .move (.s [true, true, true]), some ([true, false, true, false, true], false)⟩,
  ⟨some [true, true, true, false, true], .bin .neq (.s [false, true, true, false, true]) (.c (.int .i64 0)), some ([true, false, true, false, true], false)⟩,
  ⟨some [false, false, false, true, true], .pick (.s [true, false, true, false, true]) (.c (.bool true)) (.s [true, true, true, false, true]), none⟩,
  ⟨some [true, false, false, true, true], .move (.s [false, false, false, true, true]), none⟩,
  ⟨some [false, true, false, true, true], .load (some 2) (.s [false, true, false]), some ([true, false, false, true, true], false)⟩,
  ⟨some [true, true, false, true, true], .load (some 2) (.s [true, false, true]), some ([true, false, false, true, true], false)⟩,
  ⟨some [false, false, true, true, true], .eqa [.i .i64, .i .i64] true (.s [false, true, false, true, true]) (.s [true, true, false, true, true]), some ([true, false, false, true, true], false)⟩,
  ⟨some [true, false, true, true, true], .pick (.s [true, false, false, true, true]) (.c (.bool true)) (.s [false, false, true, true, true]), none⟩,
  ⟨some [false, true, true, true, true], .move (.s [true, false, true, true, true]), none⟩,
  ⟨some [true, true, true, true, true], .load (some 2) (.s [true, true, false]), some ([false, true, true, true, true], false)⟩,
  ⟨some [false, false, false, false, false, false], .load (some 2) (.s [false, true, true]), some ([false, true, true, true, true], false)⟩,
  ⟨some [true, false, false, false, false, false], .eqa [.i .i64, .i .i64] true (.s [true, true, true, true, true]) (.s [false, false, false, false, false, false]), some ([false, true, true, true, true], false)⟩,
  ⟨some [false, true, false, false, false, false], .pick (.s [false, true, true, true, true]) (.c (.bool true)) (.s [true, false, false, false, false, false]), none⟩,
  ⟨some [true, true, false, false, false, false], .move (.s [false, true, false, false, false, false]), none⟩,
  ⟨some [false, false, true, false, false, false], .load (some 2) (.s [false, true, false]), some ([true, true, false, false, false, false], false)⟩,
  ⟨some [true, false, true, false, false, false], .call false (.c (.func 26 [])) [(.s [false, false, true, false, false, false])], some ([true, true, false, false, false, false], false)⟩,
  ⟨some [false, true, true, false, false, false], .un .not (.s [true, false, true, false, false, false]), some ([true, true, false, false, false, false], false)⟩,
  ⟨some [true, true, true, false, false, false], .pick (.s [true, true, false, false, false, false]) (.c (.bool true)) (.s [false, true, true, false, false, false]), none⟩,
  ⟨some [false, false, false, true, false, false], .move (.s [true, true, true, false, false, false]), none⟩,
  ⟨some [true, false, false, true, false, false], .load (some 2) (.s [true, true, false]), some ([false, false, false, true, false, false], false)⟩,
  ⟨some [false, true, false, true, false, false], .call false (.c (.func 26 [])) [(.s [true, false, false, true, false, false])], some ([false, false, false, true, false, false], false)⟩,
  ⟨some [true, true, false, true, false, false], .un .not (.s [false, true, false, true, false, false]), some ([false, false, false, true, false, false], false)⟩,
  ⟨some [false, false, true, true, false, false], .pick (.s [false, false, false, true, false, false]) (.c (.bool true)) (.s [true, true, false, true, false, false]), none⟩])
def c16_o7 : CCode := .trim [] (.ops [
  ⟨some [true, false], .move (.c (.bool false)), none⟩])
def c16_o8 : CCode := .trim [[true, true], [false, true, false], [true, true, false]] (.ops [
  ⟨some [true, false, true, true, false, false], .fieldAddr 0 (.s [false, true, false]), none⟩,
  ⟨some [false, true, true, true, false, false], .load none (.s [true, false, true, true, false, false]), none⟩,
  ⟨some [true, true, true, true, false, false], .fieldAddr 1 (.s [false, true, false]), none⟩,
  ⟨some [false, false, false, false, true, false], .load none (.s [true, true, true, true, false, false]), none⟩,
  ⟨some [true, false, false, false, true, false], .bin .leq (.s [false, true, true, true, false, false]) (.s [false, false, false, false, true, false]), none⟩,
  ⟨some [false, true, false, false, true, false], .move (.s [true, false, false, false, true, false]), none⟩,
  ⟨some [true, true, false, false, true, false], .load (some 2) (.s [true, true, false]), some ([false, true, false, false, true, false], true)⟩,
  ⟨some [false, false, true, false, true, false], .idxArr 5 1 (.s [true, true]) (.c (.int .i64 0)), some ([false, true, false, false, true, false], true)⟩,
  ⟨some [true, false, true, false, true, false], .load none (.s [false, false, true, false, true, false]), some ([false, true, false, false, true, false], true)⟩,
  ⟨some [false, true, true, false, true, false], .build [.int .i64 0, .int .i64 0] [(0, 1, (.s [true, false, true, false, true, false])), (1, 1, (.c (.int .i64 1)))], some ([false, true, false, false, true, false], true)⟩,
  ⟨some [true, true, true, false, true, false], .call false (.c (.func 27 [])) [(.s [true, true, false, false, true, false]), (.s [false, true, true, false, true, false])], some ([false, true, false, false, true, false], true)⟩,
  ⟨some [false, false, false, true, true, false], .un .not (.s [true, true, true, false, true, false]), some ([false, true, false, false, true, false], true)⟩,
  ⟨some [true, false, false, true, true, false], .pick (.s [false, true, false, false, true, false]) (.s [false, false, false, true, true, false]) (.c (.bool false)), none⟩,
  ⟨some [false, true, false, true, true, false], .move (.s [true, false, false, true, true, false]), none⟩,
  ⟨some [true, true, false, true, true, false], .idxArr 5 1 (.s [true, true]) (.c (.int .i64 0)), some ([false, true, false, true, true, false], true)⟩,
  ⟨some [false, false, true, true, true, false], .load none (.s [true, true, false, true, true, false]), some ([false, true, false, true, true, false], true)⟩,
  ⟨some [true, false, true, true, true, false], .idxArr 5 1 (.s [true, true]) (.c (.int .i64 3)), some ([false, true, false, true, true, false], true)⟩,
  ⟨some [false, true, true, true, true, false], .load none (.s [true, false, true, true, true, false]), some ([false, true, false, true, true, false], true)⟩,
  ⟨some [true, true, true, true, true, false], .bin .add (.s [false, false, true, true, true, false]) (.s [false, true, true, true, true, false]), some ([false, true, false, true, true, false], true)⟩,
  ⟨some [false, false, false, false, false, true], .build [.int .i64 0, .int .i64 0] [(0, 1, (.s [true, true, true, true, true, false])), (1, 1, (.c (.int .i64 1)))], some ([false, true, false, true, true, false], true)⟩,
  ⟨some [true, false, false, false, false, true], .load (some 2) (.s [true, true, false]), some ([false, true, false, true, true, false], true)⟩,
  ⟨some [false, true, false, false, false, true], .call false (.c (.func 27 [])) [(.s [false, false, false, false, false, true]), (.s [true, false, false, false, false, true])], some ([false, true, false, true, true, false], true)⟩,
  ⟨some [true, true, false, false, false, true], .un .not (.s [false, true, false, false, false, true]), some ([false, true, false, true, true, false], true)⟩,
  ⟨some [false, false, true, false, false, true], .pick (.s [false, true, false, true, true, false]) (.s [true, true, false, false, false, true]) (.c (.bool false)), none⟩,
  ⟨some [true, false, true, false, false, true], .move (.s [false, false, true, false, false, true]), none⟩,
  ⟨some [false, true, true, false, false, true], .call false (.c (.func 20 [])) [], some ([true, false, true, false, false, true], true)⟩,
  ⟨some [true, true, true, false, false, true], .pick (.s [true, false, true, false, false, true]) (.s [false, true, true, false, false, true]) (.c (.bool false)), none⟩,
  ⟨some [true, false], .move (.s [true, true, true, false, false, true]), none⟩])
def c16 : CFunc := { params := [[], [false]], results := [.slot [true, false]], shared := false, body := (.seq c16_o0
 (.seq c16_o1
 (.seq c16_o2
 (.seq c16_o3
 (.seq c16_o4
 (.seq c16_o5
 (.seq (.seq c16_o6
 (.cond (.s [false, false, true, true, false, false]) (.seq c16_o7
 .ret) .skip))
 (.seq c16_o8
 .ret)))))))) }
-- numnah/sample.Plan
-- c17_o0: 0=[] 1=[f] 2=[t] 3=[f, f] 4=[t, f]
-- c17_o1: 0=[] 1=[f] 2=[t] 8=[t, f, f] 9=[f, t, f]
-- c17_o2: 
-- c17_o3: 0=[] 1=[f] 2=[t] 8=[t, f, f] 9=[f, t, f]
-- c17_o4: 0=[] 1=[f] 2=[t] 8=[t, f, f] 9=[f, t, f] 13=[f, t, t]
-- c17_o5: 0=[] 1=[f] 2=[t] 8=[t, f, f] 9=[f, t, f] 13=[f, t, t] 14=[t, t, t]
-- c17_o6: 0=[] 1=[f] 2=[t] 8=[t, f, f] 9=[f, t, f] 13=[f, t, t] 14=[t, t, t] 15=[f, f, f, f]
-- c17_o7: 0=[] 1=[f] 2=[t] 8=[t, f, f] 9=[f, t, f] 13=[f, t, t] 14=[t, t, t] 15=[f, f, f, f]
-- c17_o8: 0=[] 1=[f] 2=[t] 8=[t, f, f] 9=[f, t, f] 13=[f, t, t] 14=[t, t, t] 15=[f, f, f, f] 43=[f, f, t, t, f] 44=[t, f, t, t, f]
-- c17_o9: 0=[] 1=[f] 2=[t] 8=[t, f, f] 9=[f, t, f] 13=[f, t, t] 14=[t, t, t] 15=[f, f, f, f] 43=[f, f, t, t, f] 44=[t, f, t, t, f]
-- c17_o10: 0=[] 1=[f] 2=[t] 8=[t, f, f] 9=[f, t, f] 13=[f, t, t] 14=[t, t, t] 15=[f, f, f, f] 16=[t, f, f, f] 43=[f, f, t, t, f] 44=[t, f, t, t, f]
-- c17_o11: 14=[t, t, t] 15=[f, f, f, f] 16=[t, f, f, f]
-- c17_o12: 0=[] 1=[f] 2=[t] 8=[t, f, f] 9=[f, t, f] 13=[f, t, t] 14=[t, t, t] 15=[f, f, f, f] 43=[f, f, t, t, f] 44=[t, f, t, t, f]
-- c17_l0: live slots [0, 1, 2, 8, 9, 13, 14, 15, 43, 44]
-- c17_o13: 0=[] 1=[f] 2=[t] 8=[t, f, f] 9=[f, t, f] 13=[f, t, t] 14=[t, t, t] 15=[f, f, f, f]
-- c17_l1: live slots [0, 1, 2, 8, 9, 13, 14, 15]
-- c17_o14: 14=[t, t, t]
-- c17_o15: 
-- c17_o16: 14=[t, t, t]
def c17_o0 : CCode := .trim [[], [false], [true], [false, false], [true, false]] (.ops [
  ⟨some [true, false, false], .box none (.s [false, false]), none⟩,
  ⟨some [false, true, false], .box none (.s [true, false]), none⟩,
  ⟨some [true, true, false], .move (.c (.int .i64 0)), none⟩,
  ⟨some [false, false, true], .move (.c (.int .i64 0)), none⟩,
  ⟨some [true, false, true], .move (.c (.int .i64 0)), none⟩])
def c17_o1 : CCode := .trim [[], [false], [true], [true, false, false], [false, true, false]] (.ops [
  ⟨some [false, true, false, false], .move (.s []), none⟩,
  ⟨some [true, true, false, false], .move (.s [false]), none⟩,
  ⟨some [false, false, true, false], .call false (.c (.func 52 [])) [(.s [false, true, false, false]), (.s [true, true, false, false])], none⟩,
  ⟨some [true, false, true, false], .un .not (.s [false, false, true, false]), none⟩,
  ⟨some [false, true, true, false], .move (.s [true, false, true, false]), none⟩,
  ⟨some [true, true, true, false], .move (.s []), some ([false, true, true, false], false)⟩,
  ⟨some [false, false, false, true], .move (.s [true]), some ([false, true, true, false], false)⟩,
  ⟨some [true, false, false, true], .call false (.c (.func 52 [])) [(.s [true, true, true, false]), (.s [false, false, false, true])], some ([false, true, true, false], false)⟩,
  ⟨some [false, true, false, true], .un .not (.s [true, false, false, true]), some ([false, true, true, false], false)⟩,
  ⟨some [true, true, false, true], .pick (.s [false, true, true, false]) (.c (.bool true)) (.s [false, true, false, true]), none⟩,
  ⟨some [false, false, true, true], .move (.s [true, true, false, true]), none⟩,
  ⟨some [true, false, true, true], .load (some 2) (.s [true, false, false]), some ([false, false, true, true], false)⟩,
  ⟨some [false, true, true, true], .call false (.c (.func 53 [])) [(.s [true, false, true, true])], some ([false, false, true, true], false)⟩,
  ⟨some [true, true, true, true], .un .not (.s [false, true, true, true]), some ([false, false, true, true], false)⟩,
  ⟨some [false, false, false, false, false], .pick (.s [false, false, true, true]) (.c (.bool true)) (.s [true, true, true, true]), none⟩,
  ⟨some [true, false, false, false, false], .move (.s [false, false, false, false, false]), none⟩,
  ⟨some [false, true, false, false, false], .load (some 2) (.s [false, true, false]), some ([true, false, false, false, false], false)⟩,
  ⟨some [true, true, false, false, false], .call false (.c (.func 53 [])) [(.s [false, true, false, false, false])], some ([true, false, false, false, false], false)⟩,
  ⟨some [false, false, true, false, false], .un .not (.s [true, true, false, false, false]), some ([true, false, false, false, false], false)⟩,
  ⟨some [true, false, true, false, false], .pick (.s [true, false, false, false, false]) (.c (.bool true)) (.s [false, false, true, false, false]), none⟩])
def c17_o2 : CCode := .trim [] (.ops [
  ⟨some [true, true, false], .move (.c (.int .i64 0)), none⟩,
  ⟨some [false, false, true], .move (.c (.int .i64 0)), none⟩,
  ⟨some [true, false, true], .move (.c (.int .i64 2)), none⟩])
def c17_o3 : CCode := .trim [[], [false], [true], [true, false, false], [false, true, false]] (.ops [
  ⟨some [false, true, true, false, false], .call false (.c (.func 54 [])) [], none⟩,
  ⟨some [false, true, true], .move (.s [false, true, true, false, false]), none⟩])
def c17_o4 : CCode := .trim [[], [false], [true], [true, false, false], [false, true, false], [false, true, true]] (.ops [
  ⟨some [true, true, true], .alloc none [.int .i64 0, .int .i64 0], none⟩])
def c17_o5 : CCode := .trim [[], [false], [true], [true, false, false], [false, true, false], [false, true, true], [true, true, true]] (.ops [
  ⟨some [false, false, false, false], .move (.c (.int .i64 1)), none⟩])
def c17_o6 : CCode := .trim [[], [false], [true], [true, false, false], [false, true, false], [false, true, true], [true, true, true], [false, false, false, false]] (.ops [
  ⟨some [true, true, true, false, false], .move (.s [false, false, false, false]), none⟩,
  ⟨some [false, false, false, true, false], .move (.s []), none⟩,
  ⟨some [true, false, false, true, false], .bin .leq (.s [true, true, true, false, false]) (.s [false, false, false, true, false]), none⟩])
def c17_o7 : CCode := .trim [[], [false], [true], [true, false, false], [false, true, false], [false, true, true], [true, true, true], [false, false, false, false]] (.ops [
  ⟨some [false, false, true, true, false], .move (.s [false, false, false, false]), none⟩,
  ⟨some [true, false, true, true, false], .move (.c (.int .i64 0)), none⟩])
def c17_o8 : CCode := .trim [[], [false], [true], [true, false, false], [false, true, false], [false, true, true], [true, true, true], [false, false, false, false], [false, false, true, true, false], [true, false, true, true, false]] (.ops [
  ⟨some [false, true, true, true, false], .bin .lss (.s [true, false, true, true, false]) (.s [false, false, true, true, false]), none⟩])
def c17_o9 : CCode := .trim [[], [false], [true], [true, false, false], [false, true, false], [false, true, true], [true, true, true], [false, false, false, false], [false, false, true, true, false], [true, false, true, true, false]] (.ops [
  ⟨some [true, true, true, true, false], .move (.s [true, false, true, true, false]), none⟩,
  ⟨some [true, false, false, false], .move (.s [true, true, true, true, false]), none⟩])
def c17_o10 : CCode := .trim [[], [false], [true], [true, false, false], [false, true, false], [false, true, true], [true, true, true], [false, false, false, false], [true, false, false, false], [false, false, true, true, false], [true, false, true, true, false]] (.draw 0 [
  ⟨some [false, false, false, false, true], .move (.s [false, true, true]), none⟩,
  ⟨some [true, false, false, false, true], .move (.s []), none⟩,
  ⟨some [false, true, false, false, true], .move (.s [false]), none⟩,
  ⟨some [true, true, false, false, true], .move (.s [false, false, false, false]), none⟩,
  ⟨some [false, false, true, false, true], .move (.s [true, false, false, false]), none⟩,
  ⟨some [true, false, true, false, true], .call false (.c (.func 57 [])) [(.s [false, false, false, false, true]), (.s [true, false, false, false, true]), (.s [false, true, false, false, true]), (.s [true, true, false, false, true]), (.s [false, false, true, false, true])], none⟩,
  ⟨some [false, true, true, false, true], .move (.s [false, true, true]), none⟩,
  ⟨some [true, true, true, false, true], .move (.s []), none⟩,
  ⟨some [false, false, false, true, true], .move (.s [false]), none⟩,
  ⟨some [true, false, false, true, true], .call false (.c (.func 58 [])) [(.s [false, true, true, false, true]), (.s [true, true, true, false, true]), (.s [false, false, false, true, true])], none⟩,
  ⟨some [false, true, false, true, true], .call false (.c (.func 56 [])) [(.s [true, false, true, false, true]), (.s [true, false, false, true, true])], none⟩,
  ⟨some [true, true, false, true, true], .load (some 2) (.s [true, false, false]), none⟩,
  ⟨some [false, false, true, true, true], .call false (.c (.func 55 [])) [(.s [false, true, false, true, true]), (.s [true, true, false, true, true])], none⟩,
  ⟨some [true, false, true, true, true], .bin .geq (.s [false, false, true, true, true]) (.c (.int .i64 0)), none⟩,
  ⟨some [false, true, true, true, true], .move (.s [true, false, true, true, true]), none⟩,
  ⟨some [true, true, true, true, true], .move (.s [false, true, true]), some ([false, true, true, true, true], true)⟩,
  ⟨some [false, false, false, false, false, false], .move (.s []), some ([false, true, true, true, true], true)⟩,
  ⟨some [true, false, false, false, false, false], .move (.s [true]), some ([false, true, true, true, true], true)⟩,
  ⟨some [false, true, false, false, false, false], .move (.s [false, false, false, false]), some ([false, true, true, true, true], true)⟩,
  ⟨some [true, true, false, false, false, false], .move (.s [true, false, false, false]), some ([false, true, true, true, true], true)⟩,
  ⟨some [false, false, true, false, false, false], .call false (.c (.func 57 [])) [(.s [true, true, true, true, true]), (.s [false, false, false, false, false, false]), (.s [true, false, false, false, false, false]), (.s [false, true, false, false, false, false]), (.s [true, true, false, false, false, false])], some ([false, true, true, true, true], true)⟩,
  ⟨some [true, false, true, false, false, false], .move (.s [false, true, true]), some ([false, true, true, true, true], true)⟩,
  ⟨some [false, true, true, false, false, false], .move (.s []), some ([false, true, true, true, true], true)⟩,
  ⟨some [true, true, true, false, false, false], .move (.s [true]), some ([false, true, true, true, true], true)⟩,
  ⟨some [false, false, false, true, false, false], .call false (.c (.func 58 [])) [(.s [true, false, true, false, false, false]), (.s [false, true, true, false, false, false]), (.s [true, true, true, false, false, false])], some ([false, true, true, true, true], true)⟩,
  ⟨some [true, false, false, true, false, false], .call false (.c (.func 56 [])) [(.s [false, false, true, false, false, false]), (.s [false, false, false, true, false, false])], some ([false, true, true, true, true], true)⟩,
  ⟨some [false, true, false, true, false, false], .load (some 2) (.s [false, true, false]), some ([false, true, true, true, true], true)⟩,
  ⟨some [true, true, false, true, false, false], .call false (.c (.func 55 [])) [(.s [true, false, false, true, false, false]), (.s [false, true, false, true, false, false])], some ([false, true, true, true, true], true)⟩,
  ⟨some [false, false, true, true, false, false], .bin .leq (.s [true, true, false, true, false, false]) (.c (.int .i64 0)), some ([false, true, true, true, true], true)⟩,
  ⟨some [true, false, true, true, false, false], .pick (.s [false, true, true, true, true]) (.s [false, false, true, true, false, false]) (.c (.bool false)), none⟩]
  [(5, 11), (9, 11), (10, 11), (20, 26), (24, 26), (25, 26)] [[], [], [], [], [], [0, 1, 2, 3, 4], [], [], [], [0, 1, 2, 3, 4, 5, 6, 7, 8], [0, 1, 2, 3, 4, 5, 6, 7, 8, 9], [], [0, 1, 2, 3, 4, 5, 6, 7, 8, 9, 10, 11], [0, 1, 2, 3, 4, 5, 6, 7, 8, 9, 10, 11, 12], [0, 1, 2, 3, 4, 5, 6, 7, 8, 9, 10, 11, 12, 13], [0, 1, 2, 3, 4, 5, 6, 7, 8, 9, 10, 11, 12, 13, 14], [0, 1, 2, 3, 4, 5, 6, 7, 8, 9, 10, 11, 12, 13, 14], [0, 1, 2, 3, 4, 5, 6, 7, 8, 9, 10, 11, 12, 13, 14], [0, 1, 2, 3, 4, 5, 6, 7, 8, 9, 10, 11, 12, 13, 14], [0, 1, 2, 3, 4, 5, 6, 7, 8, 9, 10, 11, 12, 13, 14], [0, 1, 2, 3, 4, 5, 6, 7, 8, 9, 10, 11, 12, 13, 14, 15, 16, 17, 18, 19], [0, 1, 2, 3, 4, 5, 6, 7, 8, 9, 10, 11, 12, 13, 14], [0, 1, 2, 3, 4, 5, 6, 7, 8, 9, 10, 11, 12, 13, 14], [0, 1, 2, 3, 4, 5, 6, 7, 8, 9, 10, 11, 12, 13, 14], [0, 1, 2, 3, 4, 5, 6, 7, 8, 9, 10, 11, 12, 13, 14, 15, 16, 17, 18, 19, 20, 21, 22, 23], [0, 1, 2, 3, 4, 5, 6, 7, 8, 9, 10, 11, 12, 13, 14, 15, 16, 17, 18, 19, 20, 21, 22, 23, 24], [0, 1, 2, 3, 4, 5, 6, 7, 8, 9, 10, 11, 12, 13, 14], [0, 1, 2, 3, 4, 5, 6, 7, 8, 9, 10, 11, 12, 13, 14, 15, 16, 17, 18, 19, 20, 21, 22, 23, 24, 25, 26], [0, 1, 2, 3, 4, 5, 6, 7, 8, 9, 10, 11, 12, 13, 14, 15, 16, 17, 18, 19, 20, 21, 22, 23, 24, 25, 26, 27], [0, 1, 2, 3, 4, 5, 6, 7, 8, 9, 10, 11, 12, 13, 14, 15, 16, 17, 18, 19, 20, 21, 22, 23, 24, 25, 26, 27, 28]])
def c17_o11 : CCode := .trim [[true, true, true], [false, false, false, false], [true, false, false, false]] (.ops [
  ⟨some [false, true, true, true, false, false], .move (.s [false, false, false, false]), none⟩,
  ⟨some [true, true, true, true, false, false], .move (.s [true, false, false, false]), none⟩,
  ⟨some [false, false, false, false, true, false], .build [.int .i64 0, .int .i64 0] [(0, 1, (.s [false, true, true, true, false, false])), (1, 1, (.s [true, true, true, true, false, false]))], none⟩,
  ⟨none, .store 2 (.s [true, true, true]) (.s [false, false, false, false, true, false]), none⟩])
def c17_o12 : CCode := .trim [[], [false], [true], [true, false, false], [false, true, false], [false, true, true], [true, true, true], [false, false, false, false], [false, false, true, true, false], [true, false, true, true, false]] (.ops [
  ⟨some [true, false, false, false, true, false], .bin .add (.s [true, false, true, true, false]) (.c (.int .i64 1)), none⟩,
  ⟨some [true, false, true, true, false], .move (.s [true, false, false, false, true, false]), none⟩])
def c17_b0 : CCode := (.seq c17_o8
 (.seq (.cond (.s [false, true, true, true, false]) .skip (.exit 2))
 (.seq (.block 3 (.seq c17_o9
 (.seq c17_o10
 (.cond (.s [true, false, true, true, false, false]) (.seq c17_o11
 (.exit 0)) .skip))))
 c17_o12)))
def c17_l0 : CCode := .loop [[], [false], [true], [true, false, false], [false, true, false], [false, true, true], [true, true, true], [false, false, false, false], [false, false, true, true, false], [true, false, true, true, false]] c17_b0
def c17_o13 : CCode := .trim [[], [false], [true], [true, false, false], [false, true, false], [false, true, true], [true, true, true], [false, false, false, false]] (.ops [
  ⟨some [false, true, false, true, false], .move (.s [false, false, false, false]), none⟩,
  ⟨some [true, true, false, true, false], .bin .add (.s [false, true, false, true, false]) (.c (.int .i64 1)), none⟩,
  ⟨some [false, false, false, false], .move (.s [true, true, false, true, false]), none⟩])
def c17_b1 : CCode := (.seq (.seq c17_o6
 (.cond (.s [true, false, false, true, false]) .skip (.exit 0)))
 (.seq (.block 1 (.seq c17_o7
 (.block 2 c17_l0)))
 c17_o13))
def c17_l1 : CCode := .loop [[], [false], [true], [true, false, false], [false, true, false], [false, true, true], [true, true, true], [false, false, false, false]] c17_b1
def c17_o14 : CCode := .trim [[true, true, true]] (.ops [
  ⟨some [false, true, false, false, true, false], .load (some 2) (.s [true, true, true]), none⟩,
  ⟨some [true, true, false, false, true, false], .build [.int .i64 0, .int .i64 0] [], none⟩,
  ⟨some [false, false, true, false, true, false], .eqa [.i .i64, .i .i64] false (.s [false, true, false, false, true, false]) (.s [true, true, false, false, true, false]), none⟩])
def c17_o15 : CCode := .trim [] (.ops [
  ⟨some [true, true, false], .move (.c (.int .i64 0)), none⟩,
  ⟨some [false, false, true], .move (.c (.int .i64 0)), none⟩,
  ⟨some [true, false, true], .move (.c (.int .i64 6)), none⟩])
def c17_o16 : CCode := .trim [[true, true, true]] (.draw 0 [
  ⟨some [true, false, true, false, true, false], .idxArr 2 1 (.s [true, true, true]) (.c (.int .i64 0)), none⟩,
  ⟨some [false, true, true, false, true, false], .load none (.s [true, false, true, false, true, false]), none⟩,
  ⟨some [true, true, true, false, true, false], .idxArr 2 1 (.s [true, true, true]) (.c (.int .i64 1)), none⟩,
  ⟨some [false, false, false, true, true, false], .load none (.s [true, true, true, false, true, false]), none⟩,
  ⟨some [true, true, false], .move (.s [false, true, true, false, true, false]), none⟩,
  ⟨some [false, false, true], .move (.s [false, false, false, true, true, false]), none⟩,
  ⟨some [true, false, true], .move (.c (.int .i64 0)), none⟩]
  [(1, 3)] [[], [0], [], [2], [0, 1], [0, 1, 2, 3, 4], [0, 1, 2, 3, 4, 5]])
def c17 : CFunc := { params := [[], [false], [true], [false, false], [true, false]], results := [.slot [true, true, false], .slot [false, false, true], .slot [true, false, true]], shared := false, body := (.seq c17_o0
 (.scope (.seq (.seq c17_o1
 (.cond (.s [true, false, true, false, false]) (.seq c17_o2
 .ret) .skip))
 (.seq c17_o3
 (.seq c17_o4
 (.seq .skip
 (.seq (.seq c17_o5
 (.block 0 c17_l1))
 (.seq (.seq c17_o14
 (.cond (.s [false, false, true, false, true, false]) (.seq c17_o15
 .ret) .skip))
 (.seq c17_o16
 .ret))))))))) }
-- numnah/numnahref05.Lot
def c18 : CFunc := { params := [[], [false]], results := [.slot [true, false]], shared := false, body := (.seq (.ops [
  ⟨some [true, false], .move (.c (.bool false)), none⟩])
 (.seq (.ops [
  ⟨some [false, true], .move (.s []), none⟩,
  ⟨some [true, true], .bin .geq (.s [false, true]) (.c (.int .i64 1)), none⟩,
  ⟨some [false, false, false], .move (.s [true, true]), none⟩,
  ⟨some [true, false, false], .move (.s []), some ([false, false, false], true)⟩,
  ⟨some [false, true, false], .bin .leq (.s [true, false, false]) (.c (.int .i64 36)), some ([false, false, false], true)⟩,
  ⟨some [true, true, false], .pick (.s [false, false, false]) (.s [false, true, false]) (.c (.bool false)), none⟩,
  ⟨some [false, false, true], .move (.s [true, true, false]), none⟩,
  ⟨some [true, false, true], .move (.s [false]), some ([false, false, true], true)⟩,
  ⟨some [false, true, true], .bin .geq (.s [true, false, true]) (.c (.int .i64 0)), some ([false, false, true], true)⟩,
  ⟨some [true, true, true], .pick (.s [false, false, true]) (.s [false, true, true]) (.c (.bool false)), none⟩,
  ⟨some [false, false, false, false], .move (.s [true, true, true]), none⟩,
  ⟨some [true, false, false, false], .move (.s [false]), some ([false, false, false, false], true)⟩,
  ⟨some [false, true, false, false], .move (.s []), some ([false, false, false, false], true)⟩,
  ⟨some [true, true, false, false], .bin .leq (.s [true, false, false, false]) (.s [false, true, false, false]), some ([false, false, false, false], true)⟩,
  ⟨some [false, false, true, false], .pick (.s [false, false, false, false]) (.s [true, true, false, false]) (.c (.bool false)), none⟩,
  ⟨some [true, false], .move (.s [false, false, true, false]), none⟩])
 .ret)) }
-- numnah/numnahref05.Share
-- c19_o0: 0=[]
-- c19_o1: 1=[f]
def c19_o0 : CCode := .trim [[]] (.ops [
  ⟨some [false], .box none (.s []), none⟩,
  ⟨some [true], .move (.c (.bool false)), none⟩])
def c19_o1 : CCode := .trim [[false]] (.ops [
  ⟨some [false, false], .fieldAddr 1 (.s [false]), none⟩,
  ⟨some [true, false], .load none (.s [false, false]), none⟩,
  ⟨some [false, true], .bin .geq (.s [true, false]) (.c (.int .i64 1)), none⟩,
  ⟨some [true, true], .move (.s [false, true]), none⟩,
  ⟨some [false, false, false], .fieldAddr 1 (.s [false]), some ([true, true], true)⟩,
  ⟨some [true, false, false], .load none (.s [false, false, false]), some ([true, true], true)⟩,
  ⟨some [false, true, false], .bin .leq (.s [true, false, false]) (.c (.int .i64 1000)), some ([true, true], true)⟩,
  ⟨some [true, true, false], .pick (.s [true, true]) (.s [false, true, false]) (.c (.bool false)), none⟩,
  ⟨some [false, false, true], .move (.s [true, true, false]), none⟩,
  ⟨some [true, false, true], .fieldAddr 0 (.s [false]), some ([false, false, true], true)⟩,
  ⟨some [false, true, true], .load none (.s [true, false, true]), some ([false, false, true], true)⟩,
  ⟨some [true, true, true], .bin .geq (.s [false, true, true]) (.c (.int .i64 0)), some ([false, false, true], true)⟩,
  ⟨some [false, false, false, false], .pick (.s [false, false, true]) (.s [true, true, true]) (.c (.bool false)), none⟩,
  ⟨some [true, false, false, false], .move (.s [false, false, false, false]), none⟩,
  ⟨some [false, true, false, false], .fieldAddr 0 (.s [false]), some ([true, false, false, false], true)⟩,
  ⟨some [true, true, false, false], .load none (.s [false, true, false, false]), some ([true, false, false, false], true)⟩,
  ⟨some [false, false, true, false], .fieldAddr 1 (.s [false]), some ([true, false, false, false], true)⟩,
  ⟨some [true, false, true, false], .load none (.s [false, false, true, false]), some ([true, false, false, false], true)⟩,
  ⟨some [false, true, true, false], .bin .leq (.s [true, true, false, false]) (.s [true, false, true, false]), some ([true, false, false, false], true)⟩,
  ⟨some [true, true, true, false], .pick (.s [true, false, false, false]) (.s [false, true, true, false]) (.c (.bool false)), none⟩,
  ⟨some [false, false, false, true], .move (.s [true, true, true, false]), none⟩,
  ⟨some [true, false, false, true], .fieldAddr 0 (.s [false]), some ([false, false, false, true], true)⟩,
  ⟨some [false, true, false, true], .load none (.s [true, false, false, true]), some ([false, false, false, true], true)⟩,
  ⟨some [true, true, false, true], .fieldAddr 1 (.s [false]), some ([false, false, false, true], true)⟩,
  ⟨some [false, false, true, true], .load none (.s [true, true, false, true]), some ([false, false, false, true], true)⟩,
  ⟨some [true, false, true, true], .call false (.c (.func 59 [])) [(.s [false, true, false, true]), (.s [false, false, true, true])], some ([false, false, false, true], true)⟩,
  ⟨some [false, true, true, true], .bin .eql (.s [true, false, true, true]) (.c (.int .i64 1)), some ([false, false, false, true], true)⟩,
  ⟨some [true, true, true, true], .pick (.s [false, false, false, true]) (.s [false, true, true, true]) (.c (.bool false)), none⟩,
  ⟨some [true], .move (.s [true, true, true, true]), none⟩])
def c19 : CFunc := { params := [[]], results := [.slot [true]], shared := false, body := (.seq c19_o0
 (.seq c19_o1
 .ret)) }
-- numnah/numnahlaw05.awake
-- c20_o0: 
-- c20_o1: 
-- c20_o2: 1=[f] 2=[t]
-- c20_o3: 1=[f] 2=[t] 3=[f, f] 4=[t, f]
-- c20_o4: 1=[f] 2=[t] 3=[f, f] 4=[t, f] 5=[f, t] 6=[t, t] 7=[f, f, f]
-- c20_o5: 1=[f] 2=[t] 3=[f, f] 4=[t, f] 5=[f, t] 6=[t, t] 7=[f, f, f] 9=[f, t, f] 10=[t, t, f]
-- c20_o6: 
-- c20_o7: 
def c20_o0 : CCode := .trim [] (.ops [
  ⟨some [], .move (.c (.bool false)), none⟩])
def c20_o1 : CCode := .trim [] (.ops [
  ⟨some [true, false, true], .call false (.c (.func 23 [])) [(.c (.int .i64 4)), (.c (.int .i64 2)), (.c (.int .i64 2)), (.c (.int .i64 0))], none⟩,
  ⟨some [false, false, true], .move (.s [true, false, true]), none⟩,
  ⟨some [false, true, true], .extract 0 (.s [false, false, true]), none⟩,
  ⟨some [true, true, true], .extract 1 (.s [false, false, true]), none⟩,
  ⟨some [false], .alloc none [.int .i64 0, .int .i64 0], none⟩,
  ⟨none, .store 2 (.s [false]) (.s [false, true, true]), none⟩,
  ⟨some [true], .move (.s [true, true, true]), none⟩])
def c20_o2 : CCode := .trim [[false], [true]] (.ops [
  ⟨some [true, false, false, false], .call false (.c (.func 32 [])) [(.c (.int .i64 4)), (.c (.int .i64 2)), (.c (.int .i64 0))], none⟩,
  ⟨some [false, false, false, false], .move (.s [true, false, false, false]), none⟩,
  ⟨some [false, true, false, false], .extract 0 (.s [false, false, false, false]), none⟩,
  ⟨some [true, true, false, false], .extract 1 (.s [false, false, false, false]), none⟩,
  ⟨some [false, false], .alloc none [.nils, .nils], none⟩,
  ⟨none, .store 2 (.s [false, false]) (.s [false, true, false, false]), none⟩,
  ⟨some [true, false], .move (.s [true, true, false, false]), none⟩])
def c20_o3 : CCode := .trim [[false], [true], [false, false], [true, false]] (.ops [
  ⟨some [true, false, true, false], .build [.int .i64 0, .int .i64 0] [(0, 1, (.c (.int .i64 1))), (1, 1, (.c (.int .i64 1)))], none⟩,
  ⟨some [false, true, true, false], .build [.int .i64 0, .int .i64 0] [(0, 1, (.c (.int .i64 1))), (1, 1, (.c (.int .i64 10)))], none⟩,
  ⟨some [true, true, true, false], .call false (.c (.func 17 [])) [(.c (.int .i64 10)), (.c (.int .i64 0)), (.c (.int .i64 5)), (.s [true, false, true, false]), (.s [false, true, true, false])], none⟩,
  ⟨some [false, false, true, false], .move (.s [true, true, true, false]), none⟩,
  ⟨some [false, false, false, true], .extract 0 (.s [false, false, true, false]), none⟩,
  ⟨some [true, false, false, true], .extract 1 (.s [false, false, true, false]), none⟩,
  ⟨some [false, true, false, true], .extract 2 (.s [false, false, true, false]), none⟩,
  ⟨some [false, true], .move (.s [false, false, false, true]), none⟩,
  ⟨some [true, true], .move (.s [true, false, false, true]), none⟩,
  ⟨some [false, false, false], .move (.s [false, true, false, true]), none⟩])
def c20_o4 : CCode := .trim [[false], [true], [false, false], [true, false], [false, true], [true, true], [false, false, false]] (.ops [
  ⟨some [false, false, true, true], .buildSlice none 1 2 [.int .i64 0, .int .i64 0] [(0, 1, (.c (.int .i64 (-1)))), (1, 1, (.c (.int .i64 0)))], none⟩,
  ⟨some [true, false, true, true], .buildSlice none 1 2 [.int .i64 0, .int .i64 0] [(0, 1, (.c (.int .i64 1))), (1, 1, (.c (.int .i64 1)))], none⟩,
  ⟨some [false, true, true, true], .build [.nils, .nils] [(0, 1, (.s [false, false, true, true])), (1, 1, (.s [true, false, true, true]))], none⟩,
  ⟨some [true, true, true, true], .call false (.c (.func 34 [])) [(.c (.int .i64 4)), (.c (.int .i64 2)), (.s [false, true, true, true])], none⟩,
  ⟨some [true, true, false, true], .move (.s [true, true, true, true]), none⟩,
  ⟨some [false, false, false, false, false], .extract 0 (.s [true, true, false, true]), none⟩,
  ⟨some [true, false, false, false, false], .extract 1 (.s [true, true, false, true]), none⟩,
  ⟨some [false, true, false, false, false], .extract 2 (.s [true, true, false, true]), none⟩,
  ⟨some [true, false, false], .alloc none [.int .i64 0, .int .i64 0], none⟩,
  ⟨some [false, true, false], .alloc none [.int .i64 0, .int .i64 0], none⟩,
  ⟨none, .store 2 (.s [true, false, false]) (.s [false, false, false, false, false]), none⟩,
  ⟨none, .store 2 (.s [false, true, false]) (.s [true, false, false, false, false]), none⟩,
  ⟨some [true, true, false], .move (.s [false, true, false, false, false]), none⟩])
def c20_o5 : CCode := .trim [[false], [true], [false, false], [true, false], [false, true], [true, true], [false, false, false], [false, true, false], [true, true, false]] (.ops [
  ⟨some [true, true, false, false, false], .move (.s [true]), none⟩,
  ⟨some [false, false, true, false, false], .bin .neq (.s [true, true, false, false, false]) (.c (.int .i64 0)), none⟩,
  ⟨some [true, false, true, false, false], .move (.s [false, false, true, false, false]), none⟩,
  ⟨some [false, true, true, false, false], .load (some 2) (.s [false]), some ([true, false, true, false, false], false)⟩,
  ⟨some [true, true, true, false, false], .build [.int .i64 0, .int .i64 0] [(0, 1, (.c (.int .i64 1))), (1, 1, (.c (.int .i64 6)))], some ([true, false, true, false, false], false)⟩,
  ⟨some [false, false, false, true, false], .eqa [.i .i64, .i .i64] true (.s [false, true, true, false, false]) (.s [true, true, true, false, false]), some ([true, false, true, false, false], false)⟩,
  ⟨some [true, false, false, true, false], .pick (.s [true, false, true, false, false]) (.c (.bool true)) (.s [false, false, false, true, false]), none⟩,
  ⟨some [false, true, false, true, false], .move (.s [true, false, false, true, false]), none⟩,
  ⟨some [true, true, false, true, false], .move (.s [true, false]), some ([false, true, false, true, false], false)⟩,
  ⟨some [false, false, true, true, false], .bin .neq (.s [true, true, false, true, false]) (.c (.int .i64 0)), some ([false, true, false, true, false], false)⟩,
  ⟨some [true, false, true, true, false], .pick (.s [false, true, false, true, false]) (.c (.bool true)) (.s [false, false, true, true, false]), none⟩,
  ⟨some [false, true, true, true, false], .move (.s [true, false, true, true, false]), none⟩,
  ⟨some [true, true, true, true, false], .fieldAddr 0 (.s [false, false]), some ([false, true, true, true, false], false)⟩,
  ⟨some [false, false, false, false, true], .load none (.s [true, true, true, true, false]), some ([false, true, true, true, false], false)⟩,
  ⟨some [true, false, false, false, true], .buildSlice none 1 2 [.int .i64 0, .int .i64 0] [(0, 1, (.c (.int .i64 (-1)))), (1, 1, (.c (.int .i64 0)))], some ([false, true, true, true, false], false)⟩,
  ⟨some [false, true, false, false, true], .call false (.c (.func 45 [])) [(.s [false, false, false, false, true]), (.s [true, false, false, false, true])], some ([false, true, true, true, false], false)⟩,
  ⟨some [true, true, false, false, true], .un .not (.s [false, true, false, false, true]), some ([false, true, true, true, false], false)⟩,
  ⟨some [false, false, true, false, true], .pick (.s [false, true, true, true, false]) (.c (.bool true)) (.s [true, true, false, false, true]), none⟩,
  ⟨some [true, false, true, false, true], .move (.s [false, false, true, false, true]), none⟩,
  ⟨some [false, true, true, false, true], .fieldAddr 1 (.s [false, false]), some ([true, false, true, false, true], false)⟩,
  ⟨some [true, true, true, false, true], .load none (.s [false, true, true, false, true]), some ([true, false, true, false, true], false)⟩,
  ⟨some [false, false, false, true, true], .buildSlice none 1 2 [.int .i64 0, .int .i64 0] [(0, 1, (.c (.int .i64 1))), (1, 1, (.c (.int .i64 1)))], some ([true, false, true, false, true], false)⟩,
  ⟨some [true, false, false, true, true], .call false (.c (.func 45 [])) [(.s [true, true, true, false, true]), (.s [false, false, false, true, true])], some ([true, false, true, false, true], false)⟩,
  ⟨some [false, true, false, true, true], .un .not (.s [true, false, false, true, true]), some ([true, false, true, false, true], false)⟩,
  ⟨some [true, true, false, true, true], .pick (.s [true, false, true, false, true]) (.c (.bool true)) (.s [false, true, false, true, true]), none⟩,
  ⟨some [false, false, true, true, true], .move (.s [true, true, false, true, true]), none⟩,
  ⟨some [true, false, true, true, true], .move (.s [false, false, false]), some ([false, false, true, true, true], false)⟩,
  ⟨some [false, true, true, true, true], .bin .neq (.s [true, false, true, true, true]) (.c (.int .i64 0)), some ([false, false, true, true, true], false)⟩,
  ⟨some [true, true, true, true, true], .pick (.s [false, false, true, true, true]) (.c (.bool true)) (.s [false, true, true, true, true]), none⟩,
  ⟨some [false, false, false, false, false, false], .move (.s [true, true, true, true, true]), none⟩,
  ⟨some [true, false, false, false, false, false], .move (.s [false, true]), some ([false, false, false, false, false, false], false)⟩,
  ⟨some [false, true, false, false, false, false], .bin .neq (.s [true, false, false, false, false, false]) (.c (.int .i64 3)), some ([false, false, false, false, false, false], false)⟩,
  ⟨some [true, true, false, false, false, false], .pick (.s [false, false, false, false, false, false]) (.c (.bool true)) (.s [false, true, false, false, false, false]), none⟩,
  ⟨some [false, false, true, false, false, false], .move (.s [true, true, false, false, false, false]), none⟩,
  ⟨some [true, false, true, false, false, false], .move (.s [true, true]), some ([false, false, true, false, false, false], false)⟩,
  ⟨some [false, true, true, false, false, false], .bin .neq (.s [true, false, true, false, false, false]) (.c (.int .i64 0)), some ([false, false, true, false, false, false], false)⟩,
  ⟨some [true, true, true, false, false, false], .pick (.s [false, false, true, false, false, false]) (.c (.bool true)) (.s [false, true, true, false, false, false]), none⟩,
  ⟨some [false, false, false, true, false, false], .move (.s [true, true, true, false, false, false]), none⟩,
  ⟨some [true, false, false, true, false, false], .move (.s [true, true, false]), some ([false, false, false, true, false, false], false)⟩,
  ⟨some [false, true, false, true, false, false], .bin .neq (.s [true, false, false, true, false, false]) (.c (.int .i64 0)), some ([false, false, false, true, false, false], false)⟩,
  ⟨some [true, true, false, true, false, false], .pick (.s [false, false, false, true, false, false]) (.c (.bool true)) (.s [false, true, false, true, false, false]), none⟩,
  ⟨some [false, false, true, true, false, false], .move (.s [true, true, false, true, false, false]), none⟩,
  ⟨some [true, false, true, true, false, false], .load (some 2) (.s [false, true, false]), some ([false, false, true, true, false, false], false)⟩,
  ⟨some [false, true, true, true, false, false], .build [.int .i64 0, .int .i64 0] [(0, 1, (.c (.int .i64 3))), (1, 1, (.c (.int .i64 2)))], some ([false, false, true, true, false, false], false)⟩,
  ⟨some [true, true, true, true, false, false], .eqa [.i .i64, .i .i64] true (.s [true, false, true, true, false, false]) (.s [false, true, true, true, false, false]), some ([false, false, true, true, false, false], false)⟩,
  ⟨some [false, false, false, false, true, false], .pick (.s [false, false, true, true, false, false]) (.c (.bool true)) (.s [true, true, true, true, false, false]), none⟩])
def c20_o6 : CCode := .trim [] (.ops [
  ⟨some [], .move (.c (.bool false)), none⟩])
def c20_o7 : CCode := .trim [] (.ops [
  ⟨some [], .move (.c (.bool true)), none⟩])
def c20 : CFunc := { params := [], results := [.slot []], shared := false, body := (.seq c20_o0
 (.seq c20_o1
 (.seq c20_o2
 (.seq c20_o3
 (.seq c20_o4
 (.seq (.seq c20_o5
 (.cond (.s [false, false, false, false, true, false]) (.seq c20_o6
 .ret) .skip))
 (.seq c20_o7
 .ret))))))) }
-- numnah/numnahref05.Enough
-- c21_o0: 0=[] 1=[f] 2=[t] 3=[f, f] 4=[t, f] 5=[f, t] 6=[t, t]
-- c21_o1: 0=[] 1=[f] 2=[t] 5=[f, t] 6=[t, t] 10=[t, t, f] 11=[f, f, t]
-- c21_o2: 0=[] 1=[f] 2=[t] 10=[t, t, f] 11=[f, f, t] 15=[f, f, f, f] 16=[t, f, f, f]
def c21_o0 : CCode := .trim [[], [false], [true], [false, false], [true, false], [false, true], [true, true]] (.ops [
  ⟨some [true, true, false], .box none (.s [false, false]), none⟩,
  ⟨some [false, false, true], .box none (.s [true, false]), none⟩,
  ⟨some [true, true, true], .move (.c (.bool false)), none⟩])
def c21_o1 : CCode := .trim [[], [false], [true], [false, true], [true, true], [true, true, false], [false, false, true]] (.ops [
  ⟨some [false, true, false, false], .move (.s []), none⟩,
  ⟨some [true, true, false, false], .move (.s [false]), none⟩,
  ⟨some [false, false, true, false], .move (.s [false, true]), none⟩,
  ⟨some [true, false, true, false], .move (.s [true, true]), none⟩,
  ⟨some [false, true, true, false], .call false (.c (.func 31 [])) [(.s [false, true, false, false]), (.s [true, true, false, false]), (.s [false, false, true, false]), (.s [true, false, true, false])], none⟩,
  ⟨some [true, true, true, false], .move (.s []), none⟩,
  ⟨some [false, false, false, true], .move (.s [true]), none⟩,
  ⟨some [true, false, false, true], .move (.s [false, true]), none⟩,
  ⟨some [false, true, false, true], .move (.s [true, true]), none⟩,
  ⟨some [true, true, false, true], .call false (.c (.func 31 [])) [(.s [true, true, true, false]), (.s [false, false, false, true]), (.s [true, false, false, true]), (.s [false, true, false, true])], none⟩,
  ⟨some [false, false, false, false], .move (.s [false, true, true, false]), none⟩,
  ⟨some [true, false, false, false], .move (.s [true, true, false, true]), none⟩])
def c21_o2 : CCode := .trim [[], [false], [true], [true, true, false], [false, false, true], [false, false, false, false], [true, false, false, false]] (.draw 0 [
  ⟨some [false, false, true, true], .move (.s [false, false, false, false]), none⟩,
  ⟨some [true, false, true, true], .fieldAddr 1 (.s [true, true, false]), none⟩,
  ⟨some [false, true, true, true], .load none (.s [true, false, true, true]), none⟩,
  ⟨some [true, true, true, true], .bin .mul (.s [false, false, true, true]) (.s [false, true, true, true]), none⟩,
  ⟨some [false, false, false, false, false], .fieldAddr 0 (.s [true, true, false]), none⟩,
  ⟨some [true, false, false, false, false], .load none (.s [false, false, false, false, false]), none⟩,
  ⟨some [false, true, false, false, false], .move (.s []), none⟩,
  ⟨some [true, true, false, false, false], .move (.s [false]), none⟩,
  ⟨some [false, false, true, false, false], .call false (.c (.func 29 [])) [(.s [false, true, false, false, false]), (.s [true, true, false, false, false])], none⟩,
  ⟨some [true, false, true, false, false], .bin .mul (.s [true, false, false, false, false]) (.s [false, false, true, false, false]), none⟩,
  ⟨some [false, true, true, false, false], .bin .geq (.s [true, true, true, true]) (.s [true, false, true, false, false]), none⟩,
  ⟨some [true, true, true, false, false], .move (.s [false, true, true, false, false]), none⟩,
  ⟨some [false, false, false, true, false], .move (.s [true, false, false, false]), some ([true, true, true, false, false], true)⟩,
  ⟨some [true, false, false, true, false], .fieldAddr 1 (.s [false, false, true]), some ([true, true, true, false, false], true)⟩,
  ⟨some [false, true, false, true, false], .load none (.s [true, false, false, true, false]), some ([true, true, true, false, false], true)⟩,
  ⟨some [true, true, false, true, false], .bin .mul (.s [false, false, false, true, false]) (.s [false, true, false, true, false]), some ([true, true, true, false, false], true)⟩,
  ⟨some [false, false, true, true, false], .fieldAddr 0 (.s [false, false, true]), some ([true, true, true, false, false], true)⟩,
  ⟨some [true, false, true, true, false], .load none (.s [false, false, true, true, false]), some ([true, true, true, false, false], true)⟩,
  ⟨some [false, true, true, true, false], .move (.s []), some ([true, true, true, false, false], true)⟩,
  ⟨some [true, true, true, true, false], .move (.s [true]), some ([true, true, true, false, false], true)⟩,
  ⟨some [false, false, false, false, true], .call false (.c (.func 29 [])) [(.s [false, true, true, true, false]), (.s [true, true, true, true, false])], some ([true, true, true, false, false], true)⟩,
  ⟨some [true, false, false, false, true], .bin .mul (.s [true, false, true, true, false]) (.s [false, false, false, false, true]), some ([true, true, true, false, false], true)⟩,
  ⟨some [false, true, false, false, true], .bin .leq (.s [true, true, false, true, false]) (.s [true, false, false, false, true]), some ([true, true, true, false, false], true)⟩,
  ⟨some [true, true, false, false, true], .pick (.s [true, true, true, false, false]) (.s [false, true, false, false, true]) (.c (.bool false)), none⟩,
  ⟨some [true, true, true], .move (.s [true, true, false, false, true]), none⟩]
  [(2, 5), (2, 8), (5, 8), (14, 17), (14, 20), (17, 20)] [[], [], [1], [0, 1, 2], [], [4], [], [], [6, 7], [4, 5, 6, 7, 8], [0, 1, 2, 3, 4, 5, 6, 7, 8, 9], [0, 1, 2, 3, 4, 5, 6, 7, 8, 9, 10], [0, 1, 2, 3, 4, 5, 6, 7, 8, 9, 10, 11], [0, 1, 2, 3, 4, 5, 6, 7, 8, 9, 10, 11], [0, 1, 2, 3, 4, 5, 6, 7, 8, 9, 10, 11, 13], [0, 1, 2, 3, 4, 5, 6, 7, 8, 9, 10, 11, 12, 13, 14], [0, 1, 2, 3, 4, 5, 6, 7, 8, 9, 10, 11], [0, 1, 2, 3, 4, 5, 6, 7, 8, 9, 10, 11, 16], [0, 1, 2, 3, 4, 5, 6, 7, 8, 9, 10, 11], [0, 1, 2, 3, 4, 5, 6, 7, 8, 9, 10, 11], [0, 1, 2, 3, 4, 5, 6, 7, 8, 9, 10, 11, 18, 19], [0, 1, 2, 3, 4, 5, 6, 7, 8, 9, 10, 11, 16, 17, 18, 19, 20], [0, 1, 2, 3, 4, 5, 6, 7, 8, 9, 10, 11, 12, 13, 14, 15, 16, 17, 18, 19, 20, 21], [0, 1, 2, 3, 4, 5, 6, 7, 8, 9, 10, 11, 12, 13, 14, 15, 16, 17, 18, 19, 20, 21, 22], [0, 1, 2, 3, 4, 5, 6, 7, 8, 9, 10, 11, 12, 13, 14, 15, 16, 17, 18, 19, 20, 21, 22, 23]])
def c21 : CFunc := { params := [[], [false], [true], [false, false], [true, false], [false, true], [true, true]], results := [.slot [true, true, true]], shared := false, body := (.seq c21_o0
 (.seq c21_o1
 (.seq c21_o2
 .ret))) }
-- numnah/numnahlaw05.single
def c22 : CFunc := { params := [[]], results := [.slot [true], .slot [false, false], .slot [true, false]], shared := false, body := (.seq (.ops [
  ⟨some [false], .box none (.s []), none⟩,
  ⟨some [true], .move (.c (.int .i64 0)), none⟩,
  ⟨some [false, false], .move (.c (.int .i64 0)), none⟩,
  ⟨some [true, false], .move (.c (.int .i64 0)), none⟩])
 (.seq (.ops [
  ⟨some [false, false, false], .idxArr 3 1 (.s [false]) (.c (.int .i64 0)), none⟩,
  ⟨some [true, false, false], .load none (.s [false, false, false]), none⟩,
  ⟨some [false, true, false], .call false (.c (.func 24 [])) [(.s [true, false, false]), (.c (.int .i64 36))], none⟩,
  ⟨some [true, true, false], .bin .add (.c (.int .i64 1)) (.s [false, true, false]), none⟩,
  ⟨some [false, true], .move (.s [true, true, false]), none⟩])
 (.seq (.ops [
  ⟨some [false, false, true], .idxArr 3 1 (.s [false]) (.c (.int .i64 1)), none⟩,
  ⟨some [true, false, true], .load none (.s [false, false, true]), none⟩,
  ⟨some [false, true, true], .move (.s [false, true]), none⟩,
  ⟨some [true, true, true], .call false (.c (.func 24 [])) [(.s [true, false, true]), (.s [false, true, true])], none⟩,
  ⟨some [false, false, false, false], .bin .add (.c (.int .i64 1)) (.s [true, true, true]), none⟩,
  ⟨some [true, true], .move (.s [false, false, false, false]), none⟩])
 (.seq (.ops [
  ⟨some [true, false, false, false], .move (.s [false, true]), none⟩,
  ⟨some [false, true, false, false], .move (.s [true, true]), none⟩,
  ⟨some [true, true, false, false], .idxArr 3 1 (.s [false]) (.c (.int .i64 2)), none⟩,
  ⟨some [false, false, true, false], .load none (.s [true, true, false, false]), none⟩,
  ⟨some [true, false, true, false], .move (.s [true, true]), none⟩,
  ⟨some [false, true, true, false], .call false (.c (.func 24 [])) [(.s [false, false, true, false]), (.s [true, false, true, false])], none⟩,
  ⟨some [true], .move (.s [true, false, false, false]), none⟩,
  ⟨some [false, false], .move (.s [false, true, false, false]), none⟩,
  ⟨some [true, false], .move (.s [false, true, true, false]), none⟩])
 .ret)))) }
-- numnah/sample.Single
def c23 : CFunc := { params := [[], [false], [true], [false, false]], results := [.cell [true, false, false] (some 2), .slot [false, true, false]], shared := false, body := (.seq (.ops [
  ⟨some [true, false, false], .alloc none [.int .i64 0, .int .i64 0], none⟩,
  ⟨some [false, true, false], .move (.c (.int .i64 0)), none⟩])
 (.seq (.seq (.ops [
  ⟨some [false, false, true], .move (.s []), none⟩,
  ⟨some [true, false, true], .move (.s [false]), none⟩,
  ⟨some [false, true, true], .call false (.c (.func 52 [])) [(.s [false, false, true]), (.s [true, false, true])], none⟩,
  ⟨some [true, true, true], .un .not (.s [false, true, true]), none⟩,
  ⟨some [false, false, false, false], .move (.s [true, true, true]), none⟩,
  ⟨some [true, false, false, false], .move (.s []), some ([false, false, false, false], false)⟩,
  ⟨some [false, true, false, false], .move (.s [true]), some ([false, false, false, false], false)⟩,
  ⟨some [true, true, false, false], .move (.s [false, false]), some ([false, false, false, false], false)⟩,
  ⟨some [false, false, true, false], .call false (.c (.func 60 [])) [(.s [true, false, false, false]), (.s [false, true, false, false]), (.s [true, true, false, false])], some ([false, false, false, false], false)⟩,
  ⟨some [true, false, true, false], .un .not (.s [false, false, true, false]), some ([false, false, false, false], false)⟩,
  ⟨some [false, true, true, false], .pick (.s [false, false, false, false]) (.c (.bool true)) (.s [true, false, true, false]), none⟩])
 (.cond (.s [false, true, true, false]) (.seq (.ops [
  ⟨some [true, true, true, false], .build [.int .i64 0, .int .i64 0] [], none⟩,
  ⟨none, .store 2 (.s [true, false, false]) (.s [true, true, true, false]), none⟩,
  ⟨some [false, true, false], .move (.c (.int .i64 2)), none⟩])
 .ret) .skip))
 (.seq (.ops [
  ⟨some [false, false, false, true], .call false (.c (.func 54 [])) [], none⟩,
  ⟨some [true, true, false], .move (.s [false, false, false, true]), none⟩])
 (.seq (.ops [
  ⟨some [true, false, false, true], .move (.s [true, true, false]), none⟩,
  ⟨some [false, true, false, true], .move (.s []), none⟩,
  ⟨some [true, true, false, true], .move (.s [false]), none⟩,
  ⟨some [false, false, true, true], .move (.s [true]), none⟩,
  ⟨some [true, false, true, true], .move (.s [false, false]), none⟩,
  ⟨some [false, true, true, true], .call false (.c (.func 57 [])) [(.s [true, false, false, true]), (.s [false, true, false, true]), (.s [true, true, false, true]), (.s [false, false, true, true]), (.s [true, false, true, true])], none⟩,
  ⟨some [true, true, true, true], .move (.s [true, true, false]), none⟩,
  ⟨some [false, false, false, false, false], .move (.s []), none⟩,
  ⟨some [true, false, false, false, false], .move (.s [false]), none⟩,
  ⟨some [false, true, false, false, false], .call false (.c (.func 58 [])) [(.s [true, true, true, true]), (.s [false, false, false, false, false]), (.s [true, false, false, false, false])], none⟩,
  ⟨some [true, true, false, false, false], .call false (.c (.func 56 [])) [(.s [false, true, true, true]), (.s [false, true, false, false, false])], none⟩,
  ⟨none, .store 2 (.s [true, false, false]) (.s [true, true, false, false, false]), none⟩,
  ⟨some [false, true, false], .move (.c (.int .i64 0)), none⟩])
 .ret)))) }
-- numnah/numnahlaw05.mod
def c24 : CFunc := { params := [[], [false]], results := [.slot [true, false]], shared := false, body := (.seq (.ops [
  ⟨some [true, false], .move (.c (.int .i64 0)), none⟩])
 (.seq (.ops [
  ⟨some [false, true], .move (.s []), none⟩,
  ⟨some [true, true], .conv .u64 (.s [false, true]), none⟩,
  ⟨some [false, false, false], .move (.s [false]), none⟩,
  ⟨some [true, false, false], .conv .u64 (.s [false, false, false]), none⟩,
  ⟨some [false, true, false], .bin .rem (.s [true, true]) (.s [true, false, false]), none⟩,
  ⟨some [true, true, false], .conv .i64 (.s [false, true, false]), none⟩,
  ⟨some [true, false], .move (.s [true, true, false]), none⟩])
 .ret)) }
-- numnah/numnahref05.Reduced
def c25 : CFunc := { params := [[], [false]], results := [.cell [true, false] (some 2)], shared := false, body := (.seq (.ops [
  ⟨some [true, false], .alloc none [.int .i64 0, .int .i64 0], none⟩])
 (.seq (.ops [
  ⟨some [true, true], .move (.s []), none⟩,
  ⟨some [false, false, false], .move (.s [false]), none⟩,
  ⟨some [true, false, false], .call false (.c (.func 59 [])) [(.s [true, true]), (.s [false, false, false])], none⟩,
  ⟨some [false, true], .move (.s [true, false, false]), none⟩])
 (.seq (.draw 0 [
  ⟨some [false, true, false], .move (.s []), none⟩,
  ⟨some [true, true, false], .move (.s [false, true]), none⟩,
  ⟨some [false, false, true], .bin .quo (.s [false, true, false]) (.s [true, true, false]), none⟩,
  ⟨some [true, false, true], .move (.s [false]), none⟩,
  ⟨some [false, true, true], .move (.s [false, true]), none⟩,
  ⟨some [true, true, true], .bin .quo (.s [true, false, true]) (.s [false, true, true]), none⟩,
  ⟨some [false, false, false, false], .build [.int .i64 0, .int .i64 0] [(0, 1, (.s [false, false, true])), (1, 1, (.s [true, true, true]))], none⟩,
  ⟨none, .store 2 (.s [true, false]) (.s [false, false, false, false]), none⟩]
  [] [[], [], [0, 1], [], [], [3, 4], [0, 1, 2, 3, 4, 5], [0, 1, 2, 3, 4, 5, 6]])
 .ret))) }
-- numnah/numnahlaw05.valid
-- c26_o0: 0=[]
-- c26_o1: 1=[f]
def c26_o0 : CCode := .trim [[]] (.ops [
  ⟨some [false], .box none (.s []), none⟩,
  ⟨some [true], .move (.c (.bool false)), none⟩])
def c26_o1 : CCode := .trim [[false]] (.draw 0 [
  ⟨some [false, false], .fieldAddr 0 (.s [false]), none⟩,
  ⟨some [true, false], .load none (.s [false, false]), none⟩,
  ⟨some [false, true], .bin .geq (.s [true, false]) (.c (.int .i64 0)), none⟩,
  ⟨some [true, true], .move (.s [false, true]), none⟩,
  ⟨some [false, false, false], .fieldAddr 1 (.s [false]), some ([true, true], true)⟩,
  ⟨some [true, false, false], .load none (.s [false, false, false]), some ([true, true], true)⟩,
  ⟨some [false, true, false], .bin .geq (.s [true, false, false]) (.c (.int .i64 1)), some ([true, true], true)⟩,
  ⟨some [true, true, false], .pick (.s [true, true]) (.s [false, true, false]) (.c (.bool false)), none⟩,
  ⟨some [false, false, true], .move (.s [true, true, false]), none⟩,
  ⟨some [true, false, true], .fieldAddr 0 (.s [false]), some ([false, false, true], true)⟩,
  ⟨some [false, true, true], .load none (.s [true, false, true]), some ([false, false, true], true)⟩,
  ⟨some [true, true, true], .bin .leq (.s [false, true, true]) (.c (.int .i64 1099511627776)), some ([false, false, true], true)⟩,
  ⟨some [false, false, false, false], .pick (.s [false, false, true]) (.s [true, true, true]) (.c (.bool false)), none⟩,
  ⟨some [true, false, false, false], .move (.s [false, false, false, false]), none⟩,
  ⟨some [false, true, false, false], .fieldAddr 1 (.s [false]), some ([true, false, false, false], true)⟩,
  ⟨some [true, true, false, false], .load none (.s [false, true, false, false]), some ([true, false, false, false], true)⟩,
  ⟨some [false, false, true, false], .bin .leq (.s [true, true, false, false]) (.c (.int .i64 1099511627776)), some ([true, false, false, false], true)⟩,
  ⟨some [true, false, true, false], .pick (.s [true, false, false, false]) (.s [false, false, true, false]) (.c (.bool false)), none⟩,
  ⟨some [false, true, true, false], .move (.s [true, false, true, false]), none⟩,
  ⟨some [true, true, true, false], .load (some 2) (.s [false]), some ([false, true, true, false], true)⟩,
  ⟨some [false, false, false, true], .fieldAddr 0 (.s [false]), some ([false, true, true, false], true)⟩,
  ⟨some [true, false, false, true], .load none (.s [false, false, false, true]), some ([false, true, true, false], true)⟩,
  ⟨some [false, true, false, true], .fieldAddr 1 (.s [false]), some ([false, true, true, false], true)⟩,
  ⟨some [true, true, false, true], .load none (.s [false, true, false, true]), some ([false, true, true, false], true)⟩,
  ⟨some [false, false, true, true], .call false (.c (.func 25 [])) [(.s [true, false, false, true]), (.s [true, true, false, true])], some ([false, true, true, false], true)⟩,
  ⟨some [true, false, true, true], .eqa [.i .i64, .i .i64] false (.s [true, true, true, false]) (.s [false, false, true, true]), some ([false, true, true, false], true)⟩,
  ⟨some [false, true, true, true], .pick (.s [false, true, true, false]) (.s [true, false, true, true]) (.c (.bool false)), none⟩,
  ⟨some [true], .move (.s [false, true, true, true]), none⟩]
  [(19, 21), (19, 23), (21, 23), (19, 24)] [[], [0], [0, 1], [0, 1, 2], [0, 1, 2, 3], [0, 1, 2, 3, 4], [0, 1, 2, 3, 4, 5], [0, 1, 2, 3, 4, 5, 6], [0, 1, 2, 3, 4, 5, 6, 7], [0, 1, 2, 3, 4, 5, 6, 7, 8], [0, 1, 2, 3, 4, 5, 6, 7, 8, 9], [0, 1, 2, 3, 4, 5, 6, 7, 8, 9, 10], [0, 1, 2, 3, 4, 5, 6, 7, 8, 9, 10, 11], [0, 1, 2, 3, 4, 5, 6, 7, 8, 9, 10, 11, 12], [0, 1, 2, 3, 4, 5, 6, 7, 8, 9, 10, 11, 12, 13], [0, 1, 2, 3, 4, 5, 6, 7, 8, 9, 10, 11, 12, 13, 14], [0, 1, 2, 3, 4, 5, 6, 7, 8, 9, 10, 11, 12, 13, 14, 15], [0, 1, 2, 3, 4, 5, 6, 7, 8, 9, 10, 11, 12, 13, 14, 15, 16], [0, 1, 2, 3, 4, 5, 6, 7, 8, 9, 10, 11, 12, 13, 14, 15, 16, 17], [0, 1, 2, 3, 4, 5, 6, 7, 8, 9, 10, 11, 12, 13, 14, 15, 16, 17, 18], [0, 1, 2, 3, 4, 5, 6, 7, 8, 9, 10, 11, 12, 13, 14, 15, 16, 17, 18], [0, 1, 2, 3, 4, 5, 6, 7, 8, 9, 10, 11, 12, 13, 14, 15, 16, 17, 18, 20], [0, 1, 2, 3, 4, 5, 6, 7, 8, 9, 10, 11, 12, 13, 14, 15, 16, 17, 18], [0, 1, 2, 3, 4, 5, 6, 7, 8, 9, 10, 11, 12, 13, 14, 15, 16, 17, 18, 22], [0, 1, 2, 3, 4, 5, 6, 7, 8, 9, 10, 11, 12, 13, 14, 15, 16, 17, 18, 20, 21, 22, 23], [0, 1, 2, 3, 4, 5, 6, 7, 8, 9, 10, 11, 12, 13, 14, 15, 16, 17, 18, 19, 20, 21, 22, 23, 24], [0, 1, 2, 3, 4, 5, 6, 7, 8, 9, 10, 11, 12, 13, 14, 15, 16, 17, 18, 19, 20, 21, 22, 23, 24, 25], [0, 1, 2, 3, 4, 5, 6, 7, 8, 9, 10, 11, 12, 13, 14, 15, 16, 17, 18, 19, 20, 21, 22, 23, 24, 25, 26]])
def c26 : CFunc := { params := [[]], results := [.slot [true]], shared := false, body := (.seq c26_o0
 (.seq c26_o1
 .ret)) }
-- numnah/numnahref05.Less
-- c27_o0: 0=[] 1=[f]
-- c27_o1: 2=[t] 3=[f, f]
-- c27_o2: 5=[f, t] 6=[t, t] 7=[f, f, f] 8=[t, f, f]
-- c27_o3: 5=[f, t] 6=[t, t] 7=[f, f, f] 8=[t, f, f] 9=[f, t, f]
-- c27_o4: 5=[f, t] 6=[t, t] 7=[f, f, f] 8=[t, f, f] 9=[f, t, f]
-- c27_o5: 6=[t, t] 8=[t, f, f] 9=[f, t, f] 10=[t, t, f] 11=[f, f, t]
-- c27_o6: 9=[f, t, f] 10=[t, t, f] 11=[f, f, t]
-- c27_o7: 
-- c27_o8: 9=[f, t, f] 10=[t, t, f]
-- c27_o9: 6=[t, t] 8=[t, f, f] 9=[f, t, f] 10=[t, t, f] 11=[f, f, t]
-- c27_o10: 5=[f, t] 8=[t, f, f] 9=[f, t, f] 10=[t, t, f] 11=[f, f, t]
-- c27_o11: 5=[f, t] 6=[t, t] 8=[t, f, f] 9=[f, t, f] 11=[f, f, t]
-- c27_o12: 5=[f, t] 6=[t, t] 7=[f, f, f] 9=[f, t, f] 11=[f, f, t]
-- c27_o13: 5=[f, t] 6=[t, t] 7=[f, f, f] 8=[t, f, f] 9=[f, t, f]
-- c27_l0: live slots [5, 6, 7, 8, 9]
-- c27_o14: 5=[f, t] 6=[t, t] 7=[f, f, f] 8=[t, f, f] 9=[f, t, f]
def c27_o0 : CCode := .trim [[], [false]] (.ops [
  ⟨some [true], .box none (.s []), none⟩,
  ⟨some [false, false], .box none (.s [false]), none⟩,
  ⟨some [true, false], .move (.c (.bool false)), none⟩])
def c27_o1 : CCode := .trim [[true], [false, false]] (.draw 0 [
  ⟨some [true, false, true], .fieldAddr 0 (.s [true]), none⟩,
  ⟨some [false, true, true], .load none (.s [true, false, true]), none⟩,
  ⟨some [true, true, true], .fieldAddr 1 (.s [true]), none⟩,
  ⟨some [false, false, false, false], .load none (.s [true, true, true]), none⟩,
  ⟨some [true, false, false, false], .fieldAddr 0 (.s [false, false]), none⟩,
  ⟨some [false, true, false, false], .load none (.s [true, false, false, false]), none⟩,
  ⟨some [true, true, false, false], .fieldAddr 1 (.s [false, false]), none⟩,
  ⟨some [false, false, true, false], .load none (.s [true, true, false, false]), none⟩,
  ⟨some [false, true], .move (.s [false, true, true]), none⟩,
  ⟨some [true, true], .move (.s [false, false, false, false]), none⟩,
  ⟨some [false, false, false], .move (.s [false, true, false, false]), none⟩,
  ⟨some [true, false, false], .move (.s [false, false, true, false]), none⟩]
  [(1, 3), (1, 5), (3, 5), (1, 7), (3, 7), (5, 7)] [[], [0], [], [2], [], [4], [], [6], [0, 1], [0, 1, 2, 3, 8], [0, 1, 2, 3, 4, 5, 8, 9], [0, 1, 2, 3, 4, 5, 6, 7, 8, 9, 10]])
def c27_o2 : CCode := .trim [[false, true], [true, true], [false, false, false], [true, false, false]] (.ops [
  ⟨some [false, true, false], .move (.c (.bool false)), none⟩])
def c27_o3 : CCode := .trim [[false, true], [true, true], [false, false, false], [true, false, false], [false, true, false]] (.draw 0 [
  ⟨some [true, false, true, false], .move (.s [false, true]), none⟩,
  ⟨some [false, true, true, false], .move (.s [true, true]), none⟩,
  ⟨some [true, true, true, false], .bin .quo (.s [true, false, true, false]) (.s [false, true, true, false]), none⟩,
  ⟨some [false, false, false, true], .move (.s [false, false, false]), none⟩,
  ⟨some [true, false, false, true], .move (.s [true, false, false]), none⟩,
  ⟨some [false, true, false, true], .bin .quo (.s [false, false, false, true]) (.s [true, false, false, true]), none⟩,
  ⟨some [true, true, false, true], .bin .eql (.s [true, true, true, false]) (.s [false, true, false, true]), none⟩]
  [] [[], [], [0, 1], [], [], [3, 4], [0, 1, 2, 3, 4, 5]])
def c27_o4 : CCode := .trim [[false, true], [true, true], [false, false, false], [true, false, false], [false, true, false]] (.draw 0 [
  ⟨some [false, false, true, true], .move (.s [false, true]), none⟩,
  ⟨some [true, false, true, true], .move (.s [true, true]), none⟩,
  ⟨some [false, true, true, true], .bin .rem (.s [false, false, true, true]) (.s [true, false, true, true]), none⟩,
  ⟨some [true, true, true, true], .move (.s [false, false, false]), none⟩,
  ⟨some [false, false, false, false, false], .move (.s [true, false, false]), none⟩,
  ⟨some [true, false, false, false, false], .bin .rem (.s [true, true, true, true]) (.s [false, false, false, false, false]), none⟩,
  ⟨some [true, true, false], .move (.s [false, true, true, true]), none⟩,
  ⟨some [false, false, true], .move (.s [true, false, false, false, false]), none⟩]
  [] [[], [], [0, 1], [], [], [3, 4], [0, 1, 2], [0, 1, 2, 3, 4, 5, 6]])
def c27_o5 : CCode := .trim [[true, true], [true, false, false], [false, true, false], [true, true, false], [false, false, true]] (.ops [
  ⟨some [false, true, false, false, false], .move (.s [true, true, false]), none⟩,
  ⟨some [true, true, false, false, false], .bin .eql (.s [false, true, false, false, false]) (.c (.int .i64 0)), none⟩,
  ⟨some [false, false, true, false, false], .move (.s [true, true, false, false, false]), none⟩,
  ⟨some [true, false, true, false, false], .move (.s [false, false, true]), some ([false, false, true, false, false], false)⟩,
  ⟨some [false, true, true, false, false], .bin .eql (.s [true, false, true, false, false]) (.c (.int .i64 0)), some ([false, false, true, false, false], false)⟩,
  ⟨some [true, true, true, false, false], .pick (.s [false, false, true, false, false]) (.c (.bool true)) (.s [false, true, true, false, false]), none⟩])
def c27_o6 : CCode := .trim [[false, true, false], [true, true, false], [false, false, true]] (.ops [
  ⟨some [false, false, false, true, false], .move (.s [true, true, false]), none⟩,
  ⟨some [true, false, false, true, false], .bin .eql (.s [false, false, false, true, false]) (.c (.int .i64 0)), none⟩,
  ⟨some [false, true, false, true, false], .move (.s [true, false, false, true, false]), none⟩,
  ⟨some [true, true, false, true, false], .move (.s [false, false, true]), some ([false, true, false, true, false], true)⟩,
  ⟨some [false, false, true, true, false], .bin .eql (.s [true, true, false, true, false]) (.c (.int .i64 0)), some ([false, true, false, true, false], true)⟩,
  ⟨some [true, false, true, true, false], .pick (.s [false, true, false, true, false]) (.s [false, false, true, true, false]) (.c (.bool false)), none⟩])
def c27_o7 : CCode := .trim [] (.ops [
  ⟨some [true, false], .move (.c (.bool false)), none⟩])
def c27_o8 : CCode := .trim [[false, true, false], [true, true, false]] (.ops [
  ⟨some [false, true, true, true, false], .move (.s [true, true, false]), none⟩,
  ⟨some [true, true, true, true, false], .bin .eql (.s [false, true, true, true, false]) (.c (.int .i64 0)), none⟩,
  ⟨some [false, false, false, false, true], .move (.s [false, true, false]), none⟩,
  ⟨some [true, false, false, false, true], .eqv 0 true (.s [true, true, true, true, false]) (.s [false, false, false, false, true]), none⟩,
  ⟨some [true, false], .move (.s [true, false, false, false, true]), none⟩])
def c27_o9 : CCode := .trim [[true, true], [true, false, false], [false, true, false], [true, true, false], [false, false, true]] (.ops [
  ⟨some [false, true, false, false, true], .move (.s [true, true]), none⟩,
  ⟨some [false, true], .move (.s [false, true, false, false, true]), none⟩])
def c27_o10 : CCode := .trim [[false, true], [true, false, false], [false, true, false], [true, true, false], [false, false, true]] (.ops [
  ⟨some [true, true, false, false, true], .move (.s [true, true, false]), none⟩,
  ⟨some [true, true], .move (.s [true, true, false, false, true]), none⟩])
def c27_o11 : CCode := .trim [[false, true], [true, true], [true, false, false], [false, true, false], [false, false, true]] (.ops [
  ⟨some [false, false, true, false, true], .move (.s [true, false, false]), none⟩,
  ⟨some [false, false, false], .move (.s [false, false, true, false, true]), none⟩])
def c27_o12 : CCode := .trim [[false, true], [true, true], [false, false, false], [false, true, false], [false, false, true]] (.ops [
  ⟨some [true, false, true, false, true], .move (.s [false, false, true]), none⟩,
  ⟨some [true, false, false], .move (.s [true, false, true, false, true]), none⟩])
def c27_o13 : CCode := .trim [[false, true], [true, true], [false, false, false], [true, false, false], [false, true, false]] (.ops [
  ⟨some [false, true, true, false, true], .move (.s [false, true, false]), none⟩,
  ⟨some [true, true, true, false, true], .un .not (.s [false, true, true, false, true]), none⟩,
  ⟨some [false, true, false], .move (.s [true, true, true, false, true]), none⟩])
def c27_b0 : CCode := (.seq (.seq c27_o3
 (.cond (.s [true, true, false, true]) .skip (.exit 0)))
 (.block 1 (.seq c27_o4
 (.seq (.seq c27_o5
 (.cond (.s [true, true, true, false, false]) (.seq (.seq c27_o6
 (.cond (.s [true, false, true, true, false]) (.seq c27_o7
 .ret) .skip))
 (.seq c27_o8
 .ret)) .skip))
 (.seq c27_o9
 (.seq c27_o10
 (.seq c27_o11
 (.seq c27_o12
 c27_o13))))))))
def c27_l0 : CCode := .loop [[false, true], [true, true], [false, false, false], [true, false, false], [false, true, false]] c27_b0
def c27_o14 : CCode := .trim [[false, true], [true, true], [false, false, false], [true, false, false], [false, true, false]] (.draw 0 [
  ⟨some [false, false, false, true, true], .move (.s [false, true]), none⟩,
  ⟨some [true, false, false, true, true], .move (.s [true, true]), none⟩,
  ⟨some [false, true, false, true, true], .bin .quo (.s [false, false, false, true, true]) (.s [true, false, false, true, true]), none⟩,
  ⟨some [true, true, false, true, true], .move (.s [false, false, false]), none⟩,
  ⟨some [false, false, true, true, true], .move (.s [true, false, false]), none⟩,
  ⟨some [true, false, true, true, true], .bin .quo (.s [true, true, false, true, true]) (.s [false, false, true, true, true]), none⟩,
  ⟨some [false, true, true, true, true], .bin .lss (.s [false, true, false, true, true]) (.s [true, false, true, true, true]), none⟩,
  ⟨some [true, true, true, true, true], .move (.s [false, true, false]), none⟩,
  ⟨some [false, false, false, false, false, false], .eqv 0 true (.s [false, true, true, true, true]) (.s [true, true, true, true, true]), none⟩,
  ⟨some [true, false], .move (.s [false, false, false, false, false, false]), none⟩]
  [] [[], [], [0, 1], [], [], [3, 4], [0, 1, 2, 3, 4, 5], [], [0, 1, 2, 3, 4, 5, 6, 7], [0, 1, 2, 3, 4, 5, 6, 7, 8]])
def c27 : CFunc := { params := [[], [false]], results := [.slot [true, false]], shared := false, body := (.seq c27_o0
 (.seq c27_o1
 (.seq c27_o2
 (.seq (.block 0 c27_l0)
 (.seq c27_o14
 .ret))))) }
-- numnah/sample.Ways
def c28 : CFunc := { params := [[], [false]], results := [.slot [true, false], .slot [false, true]], shared := false, body := (.seq (.ops [
  ⟨some [true, false], .move (.c (.int .i64 0)), none⟩,
  ⟨some [false, true], .move (.c (.int .i64 0)), none⟩])
 (.seq (.seq (.ops [
  ⟨some [true, true], .move (.s []), none⟩,
  ⟨some [false, false, false], .move (.s [false]), none⟩,
  ⟨some [true, false, false], .call false (.c (.func 52 [])) [(.s [true, true]), (.s [false, false, false])], none⟩,
  ⟨some [false, true, false], .un .not (.s [true, false, false]), none⟩])
 (.cond (.s [false, true, false]) (.seq (.ops [
  ⟨some [true, false], .move (.c (.int .i64 0)), none⟩,
  ⟨some [false, true], .move (.c (.int .i64 2)), none⟩])
 .ret) .skip))
 (.seq (.ops [
  ⟨some [true, true, false], .call false (.c (.func 54 [])) [], none⟩,
  ⟨some [false, false, true], .move (.s []), none⟩,
  ⟨some [true, false, true], .move (.s [false]), none⟩,
  ⟨some [false, true, true], .call false (.c (.func 58 [])) [(.s [true, true, false]), (.s [false, false, true]), (.s [true, false, true])], none⟩,
  ⟨some [true, false], .move (.s [false, true, true]), none⟩,
  ⟨some [false, true], .move (.c (.int .i64 0)), none⟩])
 .ret))) }
-- numnah/numnahref05.Binomial
-- c29_l0: live slots [0, 1, 5, 6]
def c29_b0 : CCode := (.seq (.seq (.ops [
  ⟨some [true, true, true], .move (.s [true, true]), none⟩,
  ⟨some [false, false, false, false], .move (.s [false]), none⟩,
  ⟨some [true, false, false, false], .bin .leq (.s [true, true, true]) (.s [false, false, false, false]), none⟩])
 (.cond (.s [true, false, false, false]) .skip (.exit 0)))
 (.seq (.block 1 (.ops [
  ⟨some [false, false, true, false], .move (.s [false, true]), none⟩,
  ⟨some [true, false, true, false], .move (.s []), none⟩,
  ⟨some [false, true, true, false], .move (.s [false]), none⟩,
  ⟨some [true, true, true, false], .bin .sub (.s [true, false, true, false]) (.s [false, true, true, false]), none⟩,
  ⟨some [false, false, false, true], .move (.s [true, true]), none⟩,
  ⟨some [true, false, false, true], .bin .add (.s [true, true, true, false]) (.s [false, false, false, true]), none⟩,
  ⟨some [false, true, false, true], .bin .mul (.s [false, false, true, false]) (.s [true, false, false, true]), none⟩,
  ⟨some [true, true, false, true], .move (.s [true, true]), none⟩,
  ⟨some [false, false, true, true], .bin .quo (.s [false, true, false, true]) (.s [true, true, false, true]), none⟩,
  ⟨some [false, true], .move (.s [false, false, true, true]), none⟩]))
 (.ops [
  ⟨some [false, true, false, false], .move (.s [true, true]), none⟩,
  ⟨some [true, true, false, false], .bin .add (.s [false, true, false, false]) (.c (.int .i64 1)), none⟩,
  ⟨some [true, true], .move (.s [true, true, false, false]), none⟩])))
def c29_l0 : CCode := .loop [[], [false], [false, true], [true, true]] c29_b0
def c29 : CFunc := { params := [[], [false]], results := [.slot [true, false]], shared := false, body := (.seq (.ops [
  ⟨some [true, false], .move (.c (.int .i64 0)), none⟩])
 (.seq (.seq (.ops [
  ⟨some [false, false, false], .move (.s [false]), none⟩,
  ⟨some [true, false, false], .bin .lss (.s [false, false, false]) (.c (.int .i64 0)), none⟩,
  ⟨some [false, true, false], .move (.s [true, false, false]), none⟩,
  ⟨some [true, true, false], .move (.s [false]), some ([false, true, false], false)⟩,
  ⟨some [false, false, true], .move (.s []), some ([false, true, false], false)⟩,
  ⟨some [true, false, true], .bin .gtr (.s [true, true, false]) (.s [false, false, true]), some ([false, true, false], false)⟩,
  ⟨some [false, true, true], .pick (.s [false, true, false]) (.c (.bool true)) (.s [true, false, true]), none⟩])
 (.cond (.s [false, true, true]) (.seq (.ops [
  ⟨some [true, false], .move (.c (.int .i64 0)), none⟩])
 .ret) .skip))
 (.seq (.ops [
  ⟨some [false, true], .move (.c (.int .i64 1)), none⟩])
 (.seq (.seq (.ops [
  ⟨some [true, true], .move (.c (.int .i64 1)), none⟩])
 (.block 0 c29_l0))
 (.seq (.ops [
  ⟨some [true, false, true, true], .move (.s [false, true]), none⟩,
  ⟨some [true, false], .move (.s [true, false, true, true]), none⟩])
 .ret))))) }
-- numnah/numnahref05.Plan
def c30 : CFunc := { params := [[], [false], [true]], results := [.slot [true, true]], shared := false, body := (.seq (.ops [
  ⟨some [true, true], .move (.c (.bool false)), none⟩])
 (.seq (.ops [
  ⟨some [false, false, false], .move (.s [true]), none⟩,
  ⟨some [true, false, false], .bin .geq (.s [false, false, false]) (.c (.int .i64 0)), none⟩,
  ⟨some [false, true, false], .move (.s [true, false, false]), none⟩,
  ⟨some [true, true, false], .move (.s [true]), some ([false, true, false], true)⟩,
  ⟨some [false, false, true], .move (.s [false]), some ([false, true, false], true)⟩,
  ⟨some [true, false, true], .bin .lss (.s [true, true, false]) (.s [false, false, true]), some ([false, true, false], true)⟩,
  ⟨some [false, true, true], .pick (.s [false, true, false]) (.s [true, false, true]) (.c (.bool false)), none⟩,
  ⟨some [true, true, true], .move (.s [false, true, true]), none⟩,
  ⟨some [false, false, false, false], .move (.s [false]), some ([true, true, true], true)⟩,
  ⟨some [true, false, false, false], .move (.s []), some ([true, true, true], true)⟩,
  ⟨some [false, true, false, false], .bin .leq (.s [false, false, false, false]) (.s [true, false, false, false]), some ([true, true, true], true)⟩,
  ⟨some [true, true, false, false], .pick (.s [true, true, true]) (.s [false, true, false, false]) (.c (.bool false)), none⟩,
  ⟨some [true, true], .move (.s [true, true, false, false]), none⟩])
 .ret)) }
-- numnah/numnahref05.Accepts
-- c31_l0: live slots [0, 1, 2, 3, 9, 10]
def c31_b0 : CCode := (.seq (.seq (.ops [
  ⟨some [false, false, true], .move (.s [true, true, false]), none⟩,
  ⟨some [true, false, true], .move (.s [false, false]), none⟩,
  ⟨some [false, true, true], .bin .leq (.s [false, false, true]) (.s [true, false, true]), none⟩])
 (.cond (.s [false, true, true]) .skip (.exit 0)))
 (.seq (.block 1 (.ops [
  ⟨some [true, false, false, false], .move (.s [false, true, false]), none⟩,
  ⟨some [false, true, false, false], .move (.s [true]), none⟩,
  ⟨some [true, true, false, false], .move (.s [true, true, false]), none⟩,
  ⟨some [false, false, true, false], .call false (.c (.func 29 [])) [(.s [false, true, false, false]), (.s [true, true, false, false])], none⟩,
  ⟨some [true, false, true, false], .move (.s []), none⟩,
  ⟨some [false, true, true, false], .move (.s [true]), none⟩,
  ⟨some [true, true, true, false], .bin .sub (.s [true, false, true, false]) (.s [false, true, true, false]), none⟩,
  ⟨some [false, false, false, true], .move (.s [false]), none⟩,
  ⟨some [true, false, false, true], .move (.s [true, true, false]), none⟩,
  ⟨some [false, true, false, true], .bin .sub (.s [false, false, false, true]) (.s [true, false, false, true]), none⟩,
  ⟨some [true, true, false, true], .call false (.c (.func 29 [])) [(.s [true, true, true, false]), (.s [false, true, false, true])], none⟩,
  ⟨some [false, false, true, true], .bin .mul (.s [false, false, true, false]) (.s [true, true, false, true]), none⟩,
  ⟨some [true, false, true, true], .bin .add (.s [true, false, false, false]) (.s [false, false, true, true]), none⟩,
  ⟨some [false, true, false], .move (.s [true, false, true, true]), none⟩]))
 (.ops [
  ⟨some [true, true, true], .move (.s [true, true, false]), none⟩,
  ⟨some [false, false, false, false], .bin .add (.s [true, true, true]) (.c (.int .i64 1)), none⟩,
  ⟨some [true, true, false], .move (.s [false, false, false, false]), none⟩])))
def c31_l0 : CCode := .loop [[], [false], [true], [false, false], [false, true, false], [true, true, false]] c31_b0
def c31 : CFunc := { params := [[], [false], [true], [false, false]], results := [.slot [true, false, false]], shared := false, body := (.seq (.ops [
  ⟨some [true, false, false], .move (.c (.int .i64 0)), none⟩])
 (.seq (.ops [
  ⟨some [false, true, false], .move (.c (.int .i64 0)), none⟩])
 (.seq (.seq (.ops [
  ⟨some [true, true, false], .move (.c (.int .i64 0)), none⟩])
 (.block 0 c31_l0))
 (.seq (.ops [
  ⟨some [false, true, true, true], .move (.s [false, true, false]), none⟩,
  ⟨some [true, false, false], .move (.s [false, true, true, true]), none⟩])
 .ret)))) }
-- numnah/sample.Curtail
-- c32_o0: 0=[] 1=[f] 2=[t]
-- c32_o1: 0=[] 1=[f] 2=[t] 6=[t, t]
-- c32_o2: 6=[t, t]
-- c32_o3: 1=[f] 2=[t] 6=[t, t]
-- c32_o4: 1=[f] 2=[t] 6=[t, t] 8=[t, f, f]
-- c32_o5: 1=[f] 2=[t] 6=[t, t] 8=[t, f, f] 9=[f, t, f]
-- c32_o6: 1=[f] 2=[t] 6=[t, t] 8=[t, f, f] 9=[f, t, f]
-- c32_o7: 1=[f] 2=[t] 6=[t, t] 8=[t, f, f] 9=[f, t, f]
-- c32_l0: live slots [1, 2, 6, 8, 9]
-- c32_o8: 6=[t, t] 8=[t, f, f]
def c32_o0 : CCode := .trim [[], [false], [true]] (.ops [
  ⟨some [true, true], .alloc none [.nils, .nils], none⟩,
  ⟨some [false, false, false], .move (.c (.int .i64 0)), none⟩])
def c32_o1 : CCode := .trim [[], [false], [true], [true, true]] (.ops [
  ⟨some [true, true, false], .move (.s []), none⟩,
  ⟨some [false, false, true], .call false (.c (.func 52 [])) [(.s [true, true, false]), (.c (.int .i64 0))], none⟩,
  ⟨some [true, false, true], .un .not (.s [false, false, true]), none⟩,
  ⟨some [false, true, true], .move (.s [true, false, true]), none⟩,
  ⟨some [true, true, true], .move (.s []), some ([false, true, true], false)⟩,
  ⟨some [false, false, false, false], .move (.s [false]), some ([false, true, true], false)⟩,
  ⟨some [true, false, false, false], .move (.s [true]), some ([false, true, true], false)⟩,
  ⟨some [false, true, false, false], .call false (.c (.func 60 [])) [(.s [true, true, true]), (.s [false, false, false, false]), (.s [true, false, false, false])], some ([false, true, true], false)⟩,
  ⟨some [true, true, false, false], .un .not (.s [false, true, false, false]), some ([false, true, true], false)⟩,
  ⟨some [false, false, true, false], .pick (.s [false, true, true]) (.c (.bool true)) (.s [true, true, false, false]), none⟩])
def c32_o2 : CCode := .trim [[true, true]] (.ops [
  ⟨some [true, false, true, false], .build [.nils, .nils] [], none⟩,
  ⟨none, .store 2 (.s [true, true]) (.s [true, false, true, false]), none⟩,
  ⟨some [false, false, false], .move (.c (.int .i64 2)), none⟩])
def c32_o3 : CCode := .trim [[false], [true], [true, true]] (.ops [
  ⟨some [false, true, true, false], .move (.s [true]), none⟩,
  ⟨some [true, true, true, false], .bin .add (.s [false, true, true, false]) (.c (.int .i64 1)), none⟩,
  ⟨some [false, false, false, true], .buildSlice none 1 1 [.int .i64 0] [(0, 1, (.s [true, true, true, false]))], none⟩,
  ⟨some [true, false, false, true], .move (.s [false]), none⟩,
  ⟨some [false, true, false, true], .call false (.c (.func 61 [])) [(.s [false, false, false, true]), (.s [true, false, false, true])], none⟩,
  ⟨some [true, true, false, true], .build [.nils, .nils] [(1, 1, (.s [false, true, false, true]))], none⟩,
  ⟨some [true, false, false], .alloc none [.nils, .nils], none⟩,
  ⟨none, .store 2 (.s [true, false, false]) (.s [true, true, false, true]), none⟩])
def c32_o4 : CCode := .trim [[false], [true], [true, true], [true, false, false]] (.ops [
  ⟨some [false, true, false], .move (.c (.int .i64 1)), none⟩])
def c32_o5 : CCode := .trim [[false], [true], [true, true], [true, false, false], [false, true, false]] (.ops [
  ⟨some [false, false, true, true], .move (.s [false, true, false]), none⟩,
  ⟨some [true, false, true, true], .move (.s [false]), none⟩,
  ⟨some [false, true, true, true], .bin .leq (.s [false, false, true, true]) (.s [true, false, true, true]), none⟩])
def c32_o6 : CCode := .trim [[false], [true], [true, true], [true, false, false], [false, true, false]] (.ops [
  ⟨some [true, false, false, false, false], .fieldAddr 0 (.s [true, false, false]), none⟩,
  ⟨some [false, true, false, false, false], .load none (.s [true, false, false, false, false]), none⟩,
  ⟨some [true, true, false, false, false], .move (.s [true]), none⟩,
  ⟨some [false, false, true, false, false], .move (.s [false]), none⟩,
  ⟨some [true, false, true, false, false], .bin .sub (.s [true, true, false, false, false]) (.s [false, false, true, false, false]), none⟩,
  ⟨some [false, true, true, false, false], .move (.s [false, true, false]), none⟩,
  ⟨some [true, true, true, false, false], .bin .add (.s [true, false, true, false, false]) (.s [false, true, true, false, false]), none⟩,
  ⟨some [false, false, false, true, false], .minmax true (.c (.int .i64 (-1))) (.s [true, true, true, false, false]), none⟩,
  ⟨some [true, false, false, true, false], .buildSlice none 1 1 [.int .i64 0] [(0, 1, (.s [false, false, false, true, false]))], none⟩,
  ⟨some [false, true, false, true, false], .append none 1 8 (.s [false, true, false, false, false]) (.s [true, false, false, true, false]), none⟩,
  ⟨some [true, true, false, true, false], .fieldAddr 0 (.s [true, false, false]), none⟩,
  ⟨none, .store 1 (.s [true, true, false, true, false]) (.s [false, true, false, true, false]), none⟩])
def c32_o7 : CCode := .trim [[false], [true], [true, true], [true, false, false], [false, true, false]] (.ops [
  ⟨some [true, true, true, true], .move (.s [false, true, false]), none⟩,
  ⟨some [false, false, false, false, false], .bin .add (.s [true, true, true, true]) (.c (.int .i64 1)), none⟩,
  ⟨some [false, true, false], .move (.s [false, false, false, false, false]), none⟩])
def c32_b0 : CCode := (.seq (.seq c32_o5
 (.cond (.s [false, true, true, true]) .skip (.exit 0)))
 (.seq (.block 1 c32_o6)
 c32_o7))
def c32_l0 : CCode := .loop [[false], [true], [true, true], [true, false, false], [false, true, false]] c32_b0
def c32_o8 : CCode := .trim [[true, true], [true, false, false]] (.ops [
  ⟨some [false, false, true, true, false], .load (some 2) (.s [true, false, false]), none⟩,
  ⟨none, .store 2 (.s [true, true]) (.s [false, false, true, true, false]), none⟩,
  ⟨some [false, false, false], .move (.c (.int .i64 0)), none⟩])
def c32 : CFunc := { params := [[], [false], [true]], results := [.cell [true, true] (some 2), .slot [false, false, false]], shared := false, body := (.seq c32_o0
 (.seq (.seq c32_o1
 (.cond (.s [false, false, true, false]) (.seq c32_o2
 .ret) .skip))
 (.seq c32_o3
 (.seq (.seq c32_o4
 (.block 0 c32_l0))
 (.seq c32_o8
 .ret))))) }
-- numnah/sample.Fits
-- c33_o0: 0=[] 1=[f]
-- c33_o1: 0=[] 3=[f, f]
-- c33_o2: 
-- c33_o3: 
def c33_o0 : CCode := .trim [[], [false]] (.ops [
  ⟨some [false, false], .box none (.s [false]), none⟩,
  ⟨some [true, false], .move (.c (.int .i64 0)), none⟩])
def c33_o1 : CCode := .trim [[], [false, false]] (.ops [
  ⟨some [false, true], .move (.s []), none⟩,
  ⟨some [true, true], .call false (.c (.func 52 [])) [(.s [false, true]), (.c (.int .i64 0))], none⟩,
  ⟨some [false, false, false], .un .not (.s [true, true]), none⟩,
  ⟨some [true, false, false], .move (.s [false, false, false]), none⟩,
  ⟨some [false, true, false], .move (.s []), some ([true, false, false], false)⟩,
  ⟨some [true, true, false], .load (some 2) (.s [false, false]), some ([true, false, false], false)⟩,
  ⟨some [false, false, true], .call false (.c (.func 62 [])) [(.s [false, true, false]), (.s [true, true, false])], some ([true, false, false], false)⟩,
  ⟨some [true, false, true], .un .not (.s [false, false, true]), some ([true, false, false], false)⟩,
  ⟨some [false, true, true], .pick (.s [true, false, false]) (.c (.bool true)) (.s [true, false, true]), none⟩])
def c33_o2 : CCode := .trim [] (.ops [
  ⟨some [true, false], .move (.c (.int .i64 2)), none⟩])
def c33_o3 : CCode := .trim [] (.ops [
  ⟨some [true, false], .move (.c (.int .i64 0)), none⟩])
def c33 : CFunc := { params := [[], [false]], results := [.slot [true, false]], shared := false, body := (.seq c33_o0
 (.seq (.seq c33_o1
 (.cond (.s [false, true, true]) (.seq c33_o2
 .ret) .skip))
 (.seq c33_o3
 .ret))) }
-- numnah/sample.Course
-- c34_o0: 0=[] 1=[f] 2=[t]
-- c34_o1: 0=[] 1=[f] 5=[f, t] 6=[t, t] 7=[f, f, f] 8=[t, f, f]
-- c34_o2: 6=[t, t] 7=[f, f, f]
-- c34_o3: 0=[] 1=[f] 5=[f, t] 6=[t, t] 7=[f, f, f] 8=[t, f, f]
-- c34_o4: 0=[] 1=[f] 5=[f, t] 6=[t, t] 7=[f, f, f] 8=[t, f, f] 9=[f, t, f]
-- c34_o5: 0=[] 1=[f] 5=[f, t] 6=[t, t] 7=[f, f, f] 8=[t, f, f] 9=[f, t, f] 10=[t, t, f] 11=[f, f, t]
-- c34_o6: 10=[t, t, f] 11=[f, f, t] 12=[t, f, t] 13=[f, t, t]
-- c34_o7: 11=[f, f, t] 12=[t, f, t] 13=[f, t, t]
-- c34_o8: 10=[t, t, f] 11=[f, f, t] 32=[t, f, f, f, f] 33=[f, t, f, f, f]
-- c34_o9: 10=[t, t, f] 11=[f, f, t] 12=[t, f, t] 33=[f, t, f, f, f]
-- c34_o10: 0=[] 1=[f] 6=[t, t] 7=[f, f, f] 9=[f, t, f] 10=[t, t, f] 11=[f, f, t]
def c34_o0 : CCode := .trim [[], [false], [true]] (.ops [
  ⟨some [false, true], .box none (.s [true]), none⟩,
  ⟨some [true, true], .alloc none [.int .i64 0, .int .i64 0], none⟩,
  ⟨some [false, false, false], .alloc none [.int .i64 0, .int .i64 0], none⟩,
  ⟨some [true, false, false], .move (.c (.int .i64 0)), none⟩])
def c34_o1 : CCode := .trim [[], [false], [false, true], [true, true], [false, false, false], [true, false, false]] (.ops [
  ⟨some [true, true, true], .move (.s []), none⟩,
  ⟨some [false, false, false, false], .move (.s [false]), none⟩,
  ⟨some [true, false, false, false], .call false (.c (.func 52 [])) [(.s [true, true, true]), (.s [false, false, false, false])], none⟩,
  ⟨some [false, true, false, false], .un .not (.s [true, false, false, false]), none⟩,
  ⟨some [true, true, false, false], .move (.s [false, true, false, false]), none⟩,
  ⟨some [false, false, true, false], .move (.s []), some ([true, true, false, false], false)⟩,
  ⟨some [true, false, true, false], .load (some 2) (.s [false, true]), some ([true, true, false, false], false)⟩,
  ⟨some [false, true, true, false], .call false (.c (.func 62 [])) [(.s [false, false, true, false]), (.s [true, false, true, false])], some ([true, true, false, false], false)⟩,
  ⟨some [true, true, true, false], .un .not (.s [false, true, true, false]), some ([true, true, false, false], false)⟩,
  ⟨some [false, false, false, true], .pick (.s [true, true, false, false]) (.c (.bool true)) (.s [true, true, true, false]), none⟩])
def c34_o2 : CCode := .trim [[true, true], [false, false, false]] (.ops [
  ⟨some [true, false, false, true], .build [.int .i64 0, .int .i64 0] [], none⟩,
  ⟨some [false, true, false, true], .build [.int .i64 0, .int .i64 0] [], none⟩,
  ⟨none, .store 2 (.s [true, true]) (.s [true, false, false, true]), none⟩,
  ⟨none, .store 2 (.s [false, false, false]) (.s [false, true, false, true]), none⟩,
  ⟨some [true, false, false], .move (.c (.int .i64 2)), none⟩])
def c34_o3 : CCode := .trim [[], [false], [false, true], [true, true], [false, false, false], [true, false, false]] (.ops [
  ⟨some [true, true, false, true], .call false (.c (.func 54 [])) [], none⟩,
  ⟨some [false, true, false], .move (.s [true, true, false, true]), none⟩])
def c34_o4 : CCode := .trim [[], [false], [false, true], [true, true], [false, false, false], [true, false, false], [false, true, false]] (.ops [
  ⟨some [true, true, false], .alloc none [.int .i64 0], none⟩,
  ⟨some [false, false, true], .alloc none [.int .i64 0], none⟩,
  ⟨none, .store 1 (.s [true, true, false]) (.c (.int .i64 0)), none⟩,
  ⟨none, .store 1 (.s [false, false, true]) (.c (.int .i64 0)), none⟩])
def c34_o5 : CCode := .trim [[], [false], [false, true], [true, true], [false, false, false], [true, false, false], [false, true, false], [true, true, false], [false, false, true]] (.ops [
  ⟨some [false, false, true, true], .move (.s [false, true, false]), none⟩,
  ⟨some [true, false, true, true], .move (.s []), none⟩,
  ⟨some [false, true, true, true], .move (.s [false]), none⟩,
  ⟨some [true, true, true, true], .load (some 2) (.s [false, true]), none⟩,
  ⟨some [false, false, false, false, false], .call false (.c (.func 63 [])) [(.s [false, false, true, true]), (.s [true, false, true, true]), (.s [false, true, true, true]), (.s [true, true, true, true])], none⟩])
def c34_o6 : CCode := .trim [[true, true, false], [false, false, true], [true, false, true], [false, true, true]] (.ops [
  ⟨some [true, true, false, false, false], .load none (.s [true, true, false]), none⟩,
  ⟨some [false, false, true, false, false], .fieldAddr 0 (.s [false, true, true]), none⟩,
  ⟨some [true, false, true, false, false], .load none (.s [false, false, true, false, false]), none⟩,
  ⟨some [false, true, true, false, false], .bin .add (.s [true, true, false, false, false]) (.s [true, false, true, false, false]), none⟩,
  ⟨none, .store 1 (.s [true, true, false]) (.s [false, true, true, false, false]), none⟩])
def c34_o7 : CCode := .trim [[false, false, true], [true, false, true], [false, true, true]] (.ops [
  ⟨some [true, true, true, false, false], .load none (.s [false, false, true]), none⟩,
  ⟨some [false, false, false, true, false], .move (.s [true, false, true]), none⟩,
  ⟨some [true, false, false, true, false], .fieldAddr 0 (.s [false, true, true]), none⟩,
  ⟨some [false, true, false, true, false], .load none (.s [true, false, false, true, false]), none⟩,
  ⟨some [true, true, false, true, false], .fieldAddr 1 (.s [false, true, true]), none⟩,
  ⟨some [false, false, true, true, false], .load none (.s [true, true, false, true, false]), none⟩,
  ⟨some [true, false, true, true, false], .bin .add (.s [false, true, false, true, false]) (.s [false, false, true, true, false]), none⟩,
  ⟨some [false, true, true, true, false], .bin .mul (.s [false, false, false, true, false]) (.s [true, false, true, true, false]), none⟩,
  ⟨some [true, true, true, true, false], .bin .add (.s [true, true, true, false, false]) (.s [false, true, true, true, false]), none⟩,
  ⟨none, .store 1 (.s [false, false, true]) (.s [true, true, true, true, false]), none⟩])
def c34_r0 : CCode := (.block 1 (.seq c34_o6
 c34_o7))
def c34_o8 : CCode := .trim [[true, true, false], [false, false, true], [true, false, false, false, false], [false, true, false, false, false]] (.ops [
  ⟨some [true, false, true], .move (.s [true, false, false, false, false]), none⟩])
def c34_o9 : CCode := .trim [[true, true, false], [false, false, true], [true, false, true], [false, true, false, false, false]] (.ops [
  ⟨some [false, true, true], .alloc none [.int .i64 0, .int .i64 0], none⟩,
  ⟨none, .store 2 (.s [false, true, true]) (.s [false, true, false, false, false]), none⟩])
def c34_o10 : CCode := .trim [[], [false], [true, true], [false, false, false], [false, true, false], [true, true, false], [false, false, true]] (.draw 0 [
  ⟨some [false, false, false, false, true], .load none (.s [true, true, false]), none⟩,
  ⟨some [true, false, false, false, true], .move (.s [false, true, false]), none⟩,
  ⟨some [false, true, false, false, true], .move (.s []), none⟩,
  ⟨some [true, true, false, false, true], .move (.s [false]), none⟩,
  ⟨some [false, false, true, false, true], .call false (.c (.func 58 [])) [(.s [true, false, false, false, true]), (.s [false, true, false, false, true]), (.s [true, true, false, false, true])], none⟩,
  ⟨some [true, false, true, false, true], .call false (.c (.func 56 [])) [(.s [false, false, false, false, true]), (.s [false, false, true, false, true])], none⟩,
  ⟨some [false, true, true, false, true], .load none (.s [false, false, true]), none⟩,
  ⟨some [true, true, true, false, true], .move (.s [false, true, false]), none⟩,
  ⟨some [false, false, false, true, true], .move (.s []), none⟩,
  ⟨some [true, false, false, true, true], .move (.s [false]), none⟩,
  ⟨some [false, true, false, true, true], .call false (.c (.func 58 [])) [(.s [true, true, true, false, true]), (.s [false, false, false, true, true]), (.s [true, false, false, true, true])], none⟩,
  ⟨some [true, true, false, true, true], .call false (.c (.func 56 [])) [(.s [false, true, true, false, true]), (.s [false, true, false, true, true])], none⟩,
  ⟨none, .store 2 (.s [true, true]) (.s [true, false, true, false, true]), none⟩,
  ⟨none, .store 2 (.s [false, false, false]) (.s [true, true, false, true, true]), none⟩,
  ⟨some [true, false, false], .move (.c (.int .i64 0)), none⟩]
  [(0, 4), (0, 6), (4, 6), (5, 6), (6, 10)] [[], [], [], [], [1, 2, 3], [0, 1, 2, 3, 4], [], [], [], [], [0, 1, 2, 3, 4, 5, 7, 8, 9], [0, 1, 2, 3, 4, 5, 6, 7, 8, 9, 10], [0, 1, 2, 3, 4, 5, 6, 7, 8, 9, 10, 11], [0, 1, 2, 3, 4, 5, 6, 7, 8, 9, 10, 11, 12], [0, 1, 2, 3, 4, 5, 6, 7, 8, 9, 10, 11, 12, 13]])
def c34 : CFunc := { params := [[], [false], [true]], results := [.cell [true, true] (some 2), .cell [false, false, false] (some 2), .slot [true, false, false]], shared := false, body := (.seq c34_o0
 (.seq (.seq c34_o1
 (.cond (.s [false, false, false, true]) (.seq c34_o2
 .ret) .skip))
 (.seq c34_o3
 (.seq c34_o4
 (.seq (.seq c34_o5
 (.block 0 (.range (.s [false, false, false, false, false]) [[true, false, false, false, false], [false, true, false, false, false]] (.seq c34_o8
 c34_o9) c34_r0)))
 (.seq c34_o10
 .ret)))))) }
-- numnah/sample.Curve
-- c35_o0: 0=[] 1=[f] 2=[t]
-- c35_o1: 0=[] 1=[f] 2=[t]
-- c35_o2: 
-- c35_o3: 0=[] 1=[f] 2=[t]
-- c35_o4: 0=[] 1=[f] 2=[t] 8=[t, f, f]
-- c35_o5: 0=[] 1=[f] 2=[t] 8=[t, f, f] 9=[f, t, f]
-- c35_o6: 0=[] 1=[f] 2=[t] 8=[t, f, f] 9=[f, t, f] 23=[f, f, f, t] 24=[t, f, f, t]
-- c35_o7: 0=[] 1=[f] 2=[t] 8=[t, f, f] 9=[f, t, f] 23=[f, f, f, t] 24=[t, f, f, t]
-- c35_o8: 0=[] 1=[f] 2=[t] 8=[t, f, f] 9=[f, t, f] 10=[t, t, f] 23=[f, f, f, t] 24=[t, f, f, t]
-- c35_o9: 0=[] 1=[f] 2=[t] 8=[t, f, f] 9=[f, t, f] 23=[f, f, f, t] 24=[t, f, f, t]
-- c35_l0: live slots [0, 1, 2, 8, 9, 23, 24]
-- c35_o10: 9=[f, t, f]
def c35_o0 : CCode := .trim [[], [false], [true]] (.ops [
  ⟨some [true, true], .move (.c (.nils)), none⟩,
  ⟨some [false, false, false], .move (.c (.int .i64 0)), none⟩])
def c35_o1 : CCode := .trim [[], [false], [true]] (.ops [
  ⟨some [false, false, true], .move (.s []), none⟩,
  ⟨some [true, false, true], .call false (.c (.func 52 [])) [(.s [false, false, true]), (.c (.int .i64 0))], none⟩,
  ⟨some [false, true, true], .un .not (.s [true, false, true]), none⟩,
  ⟨some [true, true, true], .move (.s [false, true, true]), none⟩,
  ⟨some [false, false, false, false], .move (.s []), some ([true, true, true], false)⟩,
  ⟨some [true, false, false, false], .move (.s [false]), some ([true, true, true], false)⟩,
  ⟨some [false, true, false, false], .move (.s [true]), some ([true, true, true], false)⟩,
  ⟨some [true, true, false, false], .call false (.c (.func 60 [])) [(.s [false, false, false, false]), (.s [true, false, false, false]), (.s [false, true, false, false])], some ([true, true, true], false)⟩,
  ⟨some [false, false, true, false], .un .not (.s [true, true, false, false]), some ([true, true, true], false)⟩,
  ⟨some [true, false, true, false], .pick (.s [true, true, true]) (.c (.bool true)) (.s [false, false, true, false]), none⟩])
def c35_o2 : CCode := .trim [] (.ops [
  ⟨some [true, true], .move (.c (.nils)), none⟩,
  ⟨some [false, false, false], .move (.c (.int .i64 2)), none⟩])
def c35_o3 : CCode := .trim [[], [false], [true]] (.ops [
  ⟨some [false, true, true, false], .call false (.c (.func 54 [])) [], none⟩,
  ⟨some [true, false, false], .move (.s [false, true, true, false]), none⟩])
def c35_o4 : CCode := .trim [[], [false], [true], [true, false, false]] (.ops [
  ⟨some [false, true, false], .move (.c (.nils)), none⟩])
def c35_o5 : CCode := .trim [[], [false], [true], [true, false, false], [false, true, false]] (.ops [
  ⟨some [true, true, true, false], .move (.s []), none⟩,
  ⟨some [false, false, false, true], .bin .add (.s [true, true, true, false]) (.c (.int .i64 1)), none⟩,
  ⟨some [true, false, false, true], .move (.c (.int .i64 0)), none⟩])
def c35_o6 : CCode := .trim [[], [false], [true], [true, false, false], [false, true, false], [false, false, false, true], [true, false, false, true]] (.ops [
  ⟨some [false, true, false, true], .bin .lss (.s [true, false, false, true]) (.s [false, false, false, true]), none⟩])
def c35_o7 : CCode := .trim [[], [false], [true], [true, false, false], [false, true, false], [false, false, false, true], [true, false, false, true]] (.ops [
  ⟨some [true, true, false, true], .move (.s [true, false, false, true]), none⟩,
  ⟨some [true, true, false], .move (.s [true, true, false, true]), none⟩])
def c35_o8 : CCode := .trim [[], [false], [true], [true, false, false], [false, true, false], [true, true, false], [false, false, false, true], [true, false, false, true]] (.ops [
  ⟨some [false, false, true, true], .move (.s [false, true, false]), none⟩,
  ⟨some [true, false, true, true], .move (.s [true, false, false]), none⟩,
  ⟨some [false, true, true, true], .move (.s []), none⟩,
  ⟨some [true, true, true, true], .move (.s [true, true, false]), none⟩,
  ⟨some [false, false, false, false, false], .move (.s [false]), none⟩,
  ⟨some [true, false, false, false, false], .move (.s [true]), none⟩,
  ⟨some [false, true, false, false, false], .call false (.c (.func 57 [])) [(.s [true, false, true, true]), (.s [false, true, true, true]), (.s [true, true, true, true]), (.s [false, false, false, false, false]), (.s [true, false, false, false, false])], none⟩,
  ⟨some [true, true, false, false, false], .move (.s [true, false, false]), none⟩,
  ⟨some [false, false, true, false, false], .move (.s []), none⟩,
  ⟨some [true, false, true, false, false], .move (.s [true, true, false]), none⟩,
  ⟨some [false, true, true, false, false], .call false (.c (.func 58 [])) [(.s [true, true, false, false, false]), (.s [false, false, true, false, false]), (.s [true, false, true, false, false])], none⟩,
  ⟨some [true, true, true, false, false], .call false (.c (.func 56 [])) [(.s [false, true, false, false, false]), (.s [false, true, true, false, false])], none⟩,
  ⟨some [false, false, false, true, false], .buildSlice none 2 1 [.int .i64 0, .int .i64 0] [(0, 2, (.s [true, true, true, false, false]))], none⟩,
  ⟨some [true, false, false, true, false], .append none 2 16 (.s [false, false, true, true]) (.s [false, false, false, true, false]), none⟩,
  ⟨some [false, true, false], .move (.s [true, false, false, true, false]), none⟩])
def c35_o9 : CCode := .trim [[], [false], [true], [true, false, false], [false, true, false], [false, false, false, true], [true, false, false, true]] (.ops [
  ⟨some [false, true, false, true, false], .bin .add (.s [true, false, false, true]) (.c (.int .i64 1)), none⟩,
  ⟨some [true, false, false, true], .move (.s [false, true, false, true, false]), none⟩])
def c35_b0 : CCode := (.seq c35_o6
 (.seq (.cond (.s [false, true, false, true]) .skip (.exit 0))
 (.seq (.block 1 (.seq c35_o7
 c35_o8))
 c35_o9)))
def c35_l0 : CCode := .loop [[], [false], [true], [true, false, false], [false, true, false], [false, false, false, true], [true, false, false, true]] c35_b0
def c35_o10 : CCode := .trim [[false, true, false]] (.ops [
  ⟨some [true, true, false, true, false], .move (.s [false, true, false]), none⟩,
  ⟨some [true, true], .move (.s [true, true, false, true, false]), none⟩,
  ⟨some [false, false, false], .move (.c (.int .i64 0)), none⟩])
def c35 : CFunc := { params := [[], [false], [true]], results := [.slot [true, true], .slot [false, false, false]], shared := false, body := (.seq c35_o0
 (.seq (.seq c35_o1
 (.cond (.s [true, false, true, false]) (.seq c35_o2
 .ret) .skip))
 (.seq c35_o3
 (.seq c35_o4
 (.seq (.seq c35_o5
 (.block 0 c35_l0))
 (.seq c35_o10
 .ret)))))) }
-- numnah/sample.Left
-- c36_o0: 0=[] 1=[f] 2=[t]
-- c36_o1: 0=[] 1=[f] 2=[t] 6=[t, t]
-- c36_o2: 6=[t, t]
-- c36_o3: 0=[] 1=[f] 2=[t] 6=[t, t]
-- c36_o4: 0=[] 1=[f] 2=[t] 6=[t, t] 9=[f, t, f]
-- c36_o5: 0=[] 1=[f] 2=[t] 6=[t, t] 9=[f, t, f] 10=[t, t, f] 11=[f, f, t]
-- c36_o6: 0=[] 1=[f] 2=[t] 6=[t, t] 9=[f, t, f] 10=[t, t, f] 11=[f, f, t] 30=[t, t, t, t] 31=[f, f, f, f, f]
-- c36_o7: 0=[] 1=[f] 2=[t] 6=[t, t] 9=[f, t, f] 10=[t, t, f] 11=[f, f, t] 30=[t, t, t, t] 31=[f, f, f, f, f]
-- c36_o8: 0=[] 1=[f] 2=[t] 6=[t, t] 9=[f, t, f] 10=[t, t, f] 11=[f, f, t] 12=[t, f, t] 30=[t, t, t, t] 31=[f, f, f, f, f]
-- c36_o9: 0=[] 1=[f] 2=[t] 6=[t, t] 9=[f, t, f] 10=[t, t, f] 11=[f, f, t] 12=[t, f, t] 13=[f, t, t] 30=[t, t, t, t] 31=[f, f, f, f, f]
-- c36_o10: 0=[] 1=[f] 2=[t] 6=[t, t] 9=[f, t, f] 10=[t, t, f] 11=[f, f, t] 12=[t, f, t] 13=[f, t, t] 30=[t, t, t, t] 31=[f, f, f, f, f] 37=[f, t, t, f, f] 38=[t, t, t, f, f]
-- c36_o11: 0=[] 1=[f] 2=[t] 6=[t, t] 9=[f, t, f] 10=[t, t, f] 11=[f, f, t] 12=[t, f, t] 13=[f, t, t] 30=[t, t, t, t] 31=[f, f, f, f, f] 37=[f, t, t, f, f] 38=[t, t, t, f, f]
-- c36_o12: 0=[] 1=[f] 2=[t] 6=[t, t] 9=[f, t, f] 10=[t, t, f] 11=[f, f, t] 12=[t, f, t] 13=[f, t, t] 14=[t, t, t] 30=[t, t, t, t] 31=[f, f, f, f, f] 37=[f, t, t, f, f] 38=[t, t, t, f, f]
-- c36_o13: 0=[] 1=[f] 2=[t] 6=[t, t] 9=[f, t, f] 10=[t, t, f] 11=[f, f, t] 12=[t, f, t] 13=[f, t, t] 30=[t, t, t, t] 31=[f, f, f, f, f] 37=[f, t, t, f, f] 38=[t, t, t, f, f]
-- c36_l0: live slots [0, 1, 2, 6, 9, 10, 11, 12, 13, 30, 31, 37, 38]
-- c36_o14: 0=[] 1=[f] 2=[t] 6=[t, t] 9=[f, t, f] 10=[t, t, f] 11=[f, f, t] 12=[t, f, t] 13=[f, t, t] 30=[t, t, t, t] 31=[f, f, f, f, f]
-- c36_o15: 0=[] 1=[f] 2=[t] 6=[t, t] 9=[f, t, f] 10=[t, t, f] 11=[f, f, t] 12=[t, f, t] 15=[f, f, f, f] 30=[t, t, t, t] 31=[f, f, f, f, f]
-- c36_o16: 0=[] 1=[f] 2=[t] 6=[t, t] 9=[f, t, f] 10=[t, t, f] 12=[t, f, t] 15=[f, f, f, f] 30=[t, t, t, t] 31=[f, f, f, f, f]
-- c36_o17: 0=[] 1=[f] 2=[t] 6=[t, t] 9=[f, t, f] 10=[t, t, f] 11=[f, f, t] 30=[t, t, t, t] 31=[f, f, f, f, f]
-- c36_l1: live slots [0, 1, 2, 6, 9, 10, 11, 30, 31]
-- c36_o18: 6=[t, t] 10=[t, t, f] 11=[f, f, t]
def c36_o0 : CCode := .trim [[], [false], [true]] (.ops [
  ⟨some [true, true], .alloc none [.int .i64 0, .int .i64 0], none⟩,
  ⟨some [false, false, false], .move (.c (.int .i64 0)), none⟩,
  ⟨some [true, false, false], .move (.c (.int .i64 0)), none⟩])
def c36_o1 : CCode := .trim [[], [false], [true], [true, true]] (.ops [
  ⟨some [true, false, false, false], .move (.s []), none⟩,
  ⟨some [false, true, false, false], .call false (.c (.func 52 [])) [(.s [true, false, false, false]), (.c (.int .i64 0))], none⟩,
  ⟨some [true, true, false, false], .un .not (.s [false, true, false, false]), none⟩,
  ⟨some [false, false, true, false], .move (.s [true, true, false, false]), none⟩,
  ⟨some [true, false, true, false], .move (.s []), some ([false, false, true, false], false)⟩,
  ⟨some [false, true, true, false], .move (.s [false]), some ([false, false, true, false], false)⟩,
  ⟨some [true, true, true, false], .move (.s [true]), some ([false, false, true, false], false)⟩,
  ⟨some [false, false, false, true], .call false (.c (.func 60 [])) [(.s [true, false, true, false]), (.s [false, true, true, false]), (.s [true, true, true, false])], some ([false, false, true, false], false)⟩,
  ⟨some [true, false, false, true], .un .not (.s [false, false, false, true]), some ([false, false, true, false], false)⟩,
  ⟨some [false, true, false, true], .pick (.s [false, false, true, false]) (.c (.bool true)) (.s [true, false, false, true]), none⟩])
def c36_o2 : CCode := .trim [[true, true]] (.ops [
  ⟨some [true, true, false, true], .build [.int .i64 0, .int .i64 0] [], none⟩,
  ⟨none, .store 2 (.s [true, true]) (.s [true, true, false, true]), none⟩,
  ⟨some [false, false, false], .move (.c (.int .i64 0)), none⟩,
  ⟨some [true, false, false], .move (.c (.int .i64 2)), none⟩])
def c36_o3 : CCode := .trim [[], [false], [true], [true, true]] (.ops [
  ⟨some [false, false, true, true], .call false (.c (.func 54 [])) [], none⟩,
  ⟨some [false, true, false], .move (.s [false, false, true, true]), none⟩])
def c36_o4 : CCode := .trim [[], [false], [true], [true, true], [false, true, false]] (.ops [
  ⟨some [true, false, true, true], .build [.int .i64 0, .int .i64 0] [(0, 1, (.c (.int .i64 0))), (1, 1, (.c (.int .i64 1)))], none⟩,
  ⟨some [true, true, false], .alloc none [.int .i64 0, .int .i64 0], none⟩,
  ⟨none, .store 2 (.s [true, true, false]) (.s [true, false, true, true]), none⟩,
  ⟨some [false, false, true], .move (.c (.int .i64 0)), none⟩])
def c36_o5 : CCode := .trim [[], [false], [true], [true, true], [false, true, false], [true, true, false], [false, false, true]] (.ops [
  ⟨some [false, true, true, true], .move (.s []), none⟩,
  ⟨some [true, true, true, true], .bin .add (.s [false, true, true, true]) (.c (.int .i64 1)), none⟩,
  ⟨some [false, false, false, false, false], .move (.c (.int .i64 0)), none⟩])
def c36_o6 : CCode := .trim [[], [false], [true], [true, true], [false, true, false], [true, true, false], [false, false, true], [true, true, true, true], [false, false, false, false, false]] (.ops [
  ⟨some [true, false, false, false, false], .bin .lss (.s [false, false, false, false, false]) (.s [true, true, true, true]), none⟩])
def c36_o7 : CCode := .trim [[], [false], [true], [true, true], [false, true, false], [true, true, false], [false, false, true], [true, true, true, true], [false, false, false, false, false]] (.ops [
  ⟨some [false, true, false, false, false], .move (.s [false, false, false, false, false]), none⟩,
  ⟨some [true, false, true], .move (.s [false, true, false, false, false]), none⟩])
def c36_o8 : CCode := .trim [[], [false], [true], [true, true], [false, true, false], [true, true, false], [false, false, true], [true, false, true], [true, true, true, true], [false, false, false, false, false]] (.ops [
  ⟨some [false, true, true], .move (.c (.int .i64 0)), none⟩])
def c36_o9 : CCode := .trim [[], [false], [true], [true, true], [false, true, false], [true, true, false], [false, false, true], [true, false, true], [false, true, true], [true, true, true, true], [false, false, false, false, false]] (.ops [
  ⟨some [true, true, false, false, false], .move (.s [true]), none⟩,
  ⟨some [false, false, true, false, false], .move (.s [true, false, true]), none⟩,
  ⟨some [true, false, true, false, false], .minmax false (.s [true, true, false, false, false]) (.s [false, false, true, false, false]), none⟩,
  ⟨some [false, true, true, false, false], .bin .add (.s [true, false, true, false, false]) (.c (.int .i64 1)), none⟩,
  ⟨some [true, true, true, false, false], .move (.c (.int .i64 0)), none⟩])
def c36_o10 : CCode := .trim [[], [false], [true], [true, true], [false, true, false], [true, true, false], [false, false, true], [true, false, true], [false, true, true], [true, true, true, true], [false, false, false, false, false], [false, true, true, false, false], [true, true, true, false, false]] (.ops [
  ⟨some [false, false, false, true, false], .bin .lss (.s [true, true, true, false, false]) (.s [false, true, true, false, false]), none⟩])
def c36_o11 : CCode := .trim [[], [false], [true], [true, true], [false, true, false], [true, true, false], [false, false, true], [true, false, true], [false, true, true], [true, true, true, true], [false, false, false, false, false], [false, true, true, false, false], [true, true, true, false, false]] (.ops [
  ⟨some [true, false, false, true, false], .move (.s [true, true, true, false, false]), none⟩,
  ⟨some [true, true, true], .move (.s [true, false, false, true, false]), none⟩])
def c36_o12 : CCode := .trim [[], [false], [true], [true, true], [false, true, false], [true, true, false], [false, false, true], [true, false, true], [false, true, true], [true, true, true], [true, true, true, true], [false, false, false, false, false], [false, true, true, false, false], [true, true, true, false, false]] (.ops [
  ⟨some [false, true, false, true, false], .move (.s [false, true, true]), none⟩,
  ⟨some [true, true, false, true, false], .move (.s [false, true, false]), none⟩,
  ⟨some [false, false, true, true, false], .move (.s [false]), none⟩,
  ⟨some [true, false, true, true, false], .move (.s [true, true, true]), none⟩,
  ⟨some [false, true, true, true, false], .call false (.c (.func 58 [])) [(.s [true, true, false, true, false]), (.s [false, false, true, true, false]), (.s [true, false, true, true, false])], none⟩,
  ⟨some [true, true, true, true, false], .move (.s [false, true, false]), none⟩,
  ⟨some [false, false, false, false, true], .move (.s []), none⟩,
  ⟨some [true, false, false, false, true], .move (.s [false]), none⟩,
  ⟨some [false, true, false, false, true], .bin .sub (.s [false, false, false, false, true]) (.s [true, false, false, false, true]), none⟩,
  ⟨some [true, true, false, false, true], .move (.s [true, false, true]), none⟩,
  ⟨some [false, false, true, false, true], .move (.s [true, true, true]), none⟩,
  ⟨some [true, false, true, false, true], .bin .sub (.s [true, true, false, false, true]) (.s [false, false, true, false, true]), none⟩,
  ⟨some [false, true, true, false, true], .call false (.c (.func 58 [])) [(.s [true, true, true, true, false]), (.s [false, true, false, false, true]), (.s [true, false, true, false, true])], none⟩,
  ⟨some [true, true, true, false, true], .bin .mul (.s [false, true, true, true, false]) (.s [false, true, true, false, true]), none⟩,
  ⟨some [false, false, false, true, true], .move (.s [true, false, true]), none⟩,
  ⟨some [true, false, false, true, true], .move (.s [true, true, true]), none⟩,
  ⟨some [false, true, false, true, true], .bin .sub (.s [false, false, false, true, true]) (.s [true, false, false, true, true]), none⟩,
  ⟨some [true, true, false, true, true], .bin .mul (.s [true, true, true, false, true]) (.s [false, true, false, true, true]), none⟩,
  ⟨some [false, false, true, true, true], .bin .add (.s [false, true, false, true, false]) (.s [true, true, false, true, true]), none⟩,
  ⟨some [false, true, true], .move (.s [false, false, true, true, true]), none⟩])
def c36_o13 : CCode := .trim [[], [false], [true], [true, true], [false, true, false], [true, true, false], [false, false, true], [true, false, true], [false, true, true], [true, true, true, true], [false, false, false, false, false], [false, true, true, false, false], [true, true, true, false, false]] (.ops [
  ⟨some [true, false, true, true, true], .bin .add (.s [true, true, true, false, false]) (.c (.int .i64 1)), none⟩,
  ⟨some [true, true, true, false, false], .move (.s [true, false, true, true, true]), none⟩])
def c36_b0 : CCode := (.seq c36_o10
 (.seq (.cond (.s [false, false, false, true, false]) .skip (.exit 2))
 (.seq (.block 3 (.seq c36_o11
 c36_o12))
 c36_o13)))
def c36_l0 : CCode := .loop [[], [false], [true], [true, true], [false, true, false], [true, true, false], [false, false, true], [true, false, true], [false, true, true], [true, true, true, true], [false, false, false, false, false], [false, true, true, false, false], [true, true, true, false, false]] c36_b0
def c36_o14 : CCode := .trim [[], [false], [true], [true, true], [false, true, false], [true, true, false], [false, false, true], [true, false, true], [false, true, true], [true, true, true, true], [false, false, false, false, false]] (.ops [
  ⟨some [false, true, true, true, true], .move (.s [false, true, true]), none⟩,
  ⟨some [true, true, true, true, true], .move (.s [false, true, false]), none⟩,
  ⟨some [false, false, false, false, false, false], .move (.s []), none⟩,
  ⟨some [true, false, false, false, false, false], .move (.s [true, false, true]), none⟩,
  ⟨some [false, true, false, false, false, false], .call false (.c (.func 58 [])) [(.s [true, true, true, true, true]), (.s [false, false, false, false, false, false]), (.s [true, false, false, false, false, false])], none⟩,
  ⟨some [true, true, false, false, false, false], .call false (.c (.func 56 [])) [(.s [false, true, true, true, true]), (.s [false, true, false, false, false, false])], none⟩,
  ⟨some [false, false, false, false], .alloc none [.int .i64 0, .int .i64 0], none⟩,
  ⟨none, .store 2 (.s [false, false, false, false]) (.s [true, true, false, false, false, false]), none⟩])
def c36_o15 : CCode := .trim [[], [false], [true], [true, true], [false, true, false], [true, true, false], [false, false, true], [true, false, true], [false, false, false, false], [true, true, true, true], [false, false, false, false, false]] (.ops [
  ⟨some [false, false, true, false, false, false], .load (some 2) (.s [false, false, false, false]), none⟩,
  ⟨some [true, false, true, false, false, false], .load (some 2) (.s [true, true, false]), none⟩,
  ⟨some [false, true, true, false, false, false], .call false (.c (.func 55 [])) [(.s [false, false, true, false, false, false]), (.s [true, false, true, false, false, false])], none⟩,
  ⟨some [true, true, true, false, false, false], .bin .gtr (.s [false, true, true, false, false, false]) (.c (.int .i64 0)), none⟩])
def c36_o16 : CCode := .trim [[], [false], [true], [true, true], [false, true, false], [true, true, false], [true, false, true], [false, false, false, false], [true, true, true, true], [false, false, false, false, false]] (.ops [
  ⟨some [false, false, false, true, false, false], .load (some 2) (.s [false, false, false, false]), none⟩,
  ⟨some [true, false, false, true, false, false], .move (.s [true, false, true]), none⟩,
  ⟨none, .store 2 (.s [true, true, false]) (.s [false, false, false, true, false, false]), none⟩,
  ⟨some [false, false, true], .move (.s [true, false, false, true, false, false]), none⟩])
def c36_o17 : CCode := .trim [[], [false], [true], [true, true], [false, true, false], [true, true, false], [false, false, true], [true, true, true, true], [false, false, false, false, false]] (.ops [
  ⟨some [false, true, false, true, false, false], .bin .add (.s [false, false, false, false, false]) (.c (.int .i64 1)), none⟩,
  ⟨some [false, false, false, false, false], .move (.s [false, true, false, true, false, false]), none⟩])
def c36_b1 : CCode := (.seq c36_o6
 (.seq (.cond (.s [true, false, false, false, false]) .skip (.exit 0))
 (.seq (.block 1 (.seq c36_o7
 (.seq c36_o8
 (.seq (.seq c36_o9
 (.block 2 c36_l0))
 (.seq c36_o14
 (.seq c36_o15
 (.cond (.s [true, true, true, false, false, false]) c36_o16 .skip)))))))
 c36_o17)))
def c36_l1 : CCode := .loop [[], [false], [true], [true, true], [false, true, false], [true, true, false], [false, false, true], [true, true, true, true], [false, false, false, false, false]] c36_b1
def c36_o18 : CCode := .trim [[true, true], [true, true, false], [false, false, true]] (.ops [
  ⟨some [true, true, false, true, false, false], .load (some 2) (.s [true, true, false]), none⟩,
  ⟨some [false, false, true, true, false, false], .move (.s [false, false, true]), none⟩,
  ⟨none, .store 2 (.s [true, true]) (.s [true, true, false, true, false, false]), none⟩,
  ⟨some [false, false, false], .move (.s [false, false, true, true, false, false]), none⟩,
  ⟨some [true, false, false], .move (.c (.int .i64 0)), none⟩])
def c36 : CFunc := { params := [[], [false], [true]], results := [.cell [true, true] (some 2), .slot [false, false, false], .slot [true, false, false]], shared := false, body := (.seq c36_o0
 (.seq (.seq c36_o1
 (.cond (.s [false, true, false, true]) (.seq c36_o2
 .ret) .skip))
 (.seq c36_o3
 (.seq c36_o4
 (.seq (.seq c36_o5
 (.block 0 c36_l1))
 (.seq c36_o18
 .ret)))))) }
-- numnah/numnahref05.Left
-- c37_o0: 0=[] 1=[f] 2=[t] 3=[f, f]
-- c37_o1: 0=[] 1=[f] 2=[t] 3=[f, f]
-- c37_o2: 0=[] 1=[f] 2=[t] 3=[f, f] 9=[f, t, f]
-- c37_o3: 0=[] 1=[f] 2=[t] 3=[f, f] 9=[f, t, f] 10=[t, t, f]
-- c37_o4: 0=[] 1=[f] 2=[t] 3=[f, f] 9=[f, t, f] 10=[t, t, f]
-- c37_o5: 0=[] 1=[f] 2=[t] 3=[f, f] 9=[f, t, f] 10=[t, t, f]
-- c37_l0: live slots [0, 1, 2, 3, 9, 10]
-- c37_o6: 9=[f, t, f]
def c37_o0 : CCode := .trim [[], [false], [true], [false, false]] (.ops [
  ⟨some [true, false, false], .move (.c (.int .i64 0)), none⟩])
def c37_o1 : CCode := .trim [[], [false], [true], [false, false]] (.ops [
  ⟨some [false, true, false], .move (.c (.int .i64 0)), none⟩])
def c37_o2 : CCode := .trim [[], [false], [true], [false, false], [false, true, false]] (.ops [
  ⟨some [true, true, false], .move (.c (.int .i64 0)), none⟩])
def c37_o3 : CCode := .trim [[], [false], [true], [false, false], [false, true, false], [true, true, false]] (.ops [
  ⟨some [false, false, true], .move (.s [true, true, false]), none⟩,
  ⟨some [true, false, true], .move (.s [false, false]), none⟩,
  ⟨some [false, true, true], .bin .leq (.s [false, false, true]) (.s [true, false, true]), none⟩])
def c37_o4 : CCode := .trim [[], [false], [true], [false, false], [false, true, false], [true, true, false]] (.ops [
  ⟨some [true, false, false, false], .move (.s [false, true, false]), none⟩,
  ⟨some [false, true, false, false], .move (.s [true]), none⟩,
  ⟨some [true, true, false, false], .move (.s [true, true, false]), none⟩,
  ⟨some [false, false, true, false], .call false (.c (.func 29 [])) [(.s [false, true, false, false]), (.s [true, true, false, false])], none⟩,
  ⟨some [true, false, true, false], .move (.s []), none⟩,
  ⟨some [false, true, true, false], .move (.s [true]), none⟩,
  ⟨some [true, true, true, false], .bin .sub (.s [true, false, true, false]) (.s [false, true, true, false]), none⟩,
  ⟨some [false, false, false, true], .move (.s [false]), none⟩,
  ⟨some [true, false, false, true], .move (.s [true, true, false]), none⟩,
  ⟨some [false, true, false, true], .bin .sub (.s [false, false, false, true]) (.s [true, false, false, true]), none⟩,
  ⟨some [true, true, false, true], .call false (.c (.func 29 [])) [(.s [true, true, true, false]), (.s [false, true, false, true])], none⟩,
  ⟨some [false, false, true, true], .bin .mul (.s [false, false, true, false]) (.s [true, true, false, true]), none⟩,
  ⟨some [true, false, true, true], .move (.s [false]), none⟩,
  ⟨some [false, true, true, true], .move (.s [true, true, false]), none⟩,
  ⟨some [true, true, true, true], .bin .sub (.s [true, false, true, true]) (.s [false, true, true, true]), none⟩,
  ⟨some [false, false, false, false, false], .bin .mul (.s [false, false, true, true]) (.s [true, true, true, true]), none⟩,
  ⟨some [true, false, false, false, false], .bin .add (.s [true, false, false, false]) (.s [false, false, false, false, false]), none⟩,
  ⟨some [false, true, false], .move (.s [true, false, false, false, false]), none⟩])
def c37_o5 : CCode := .trim [[], [false], [true], [false, false], [false, true, false], [true, true, false]] (.ops [
  ⟨some [true, true, true], .move (.s [true, true, false]), none⟩,
  ⟨some [false, false, false, false], .bin .add (.s [true, true, true]) (.c (.int .i64 1)), none⟩,
  ⟨some [true, true, false], .move (.s [false, false, false, false]), none⟩])
def c37_b0 : CCode := (.seq (.seq c37_o3
 (.cond (.s [false, true, true]) .skip (.exit 0)))
 (.seq (.block 1 c37_o4)
 c37_o5))
def c37_l0 : CCode := .loop [[], [false], [true], [false, false], [false, true, false], [true, true, false]] c37_b0
def c37_o6 : CCode := .trim [[false, true, false]] (.ops [
  ⟨some [false, true, false, false, false], .move (.s [false, true, false]), none⟩,
  ⟨some [true, false, false], .move (.s [false, true, false, false, false]), none⟩])
def c37 : CFunc := { params := [[], [false], [true], [false, false]], results := [.slot [true, false, false]], shared := false, body := (.seq c37_o0
 (.seq c37_o1
 (.seq (.seq c37_o2
 (.block 0 c37_l0))
 (.seq c37_o6
 .ret)))) }
-- numnah/numnahlaw05.course
-- c38_o0: 0=[]
-- c38_o1: 1=[f] 2=[t]
def c38_o0 : CCode := .trim [[]] (.ops [
  ⟨some [false], .box none (.s []), none⟩,
  ⟨some [true], .alloc none [.nils, .nils], none⟩])
def c38_o1 : CCode := .trim [[false], [true]] (.draw 0 [
  ⟨some [false, false], .fieldAddr 0 (.s [false]), none⟩,
  ⟨some [true, false], .load none (.s [false, false]), none⟩,
  ⟨some [false, true], .call false (.c (.func 64 [])) [(.s [true, false])], none⟩,
  ⟨some [true, true], .fieldAddr 1 (.s [false]), none⟩,
  ⟨some [false, false, false], .load none (.s [true, true]), none⟩,
  ⟨some [true, false, false], .call false (.c (.func 64 [])) [(.s [false, false, false])], none⟩,
  ⟨some [false, true, false], .build [.nils, .nils] [(0, 1, (.s [false, true])), (1, 1, (.s [true, false, false]))], none⟩,
  ⟨none, .store 2 (.s [true]) (.s [false, true, false]), none⟩]
  [(1, 4), (2, 4)] [[], [0], [0, 1], [], [3], [0, 1, 2, 3, 4], [0, 1, 2, 3, 4, 5], [0, 1, 2, 3, 4, 5, 6]])
def c38 : CFunc := { params := [[]], results := [.cell [true] (some 2)], shared := false, body := (.seq c38_o0
 (.seq c38_o1
 .ret)) }

end Go.Proofs.Ytlkgpcfhpeilhaa.Ev
