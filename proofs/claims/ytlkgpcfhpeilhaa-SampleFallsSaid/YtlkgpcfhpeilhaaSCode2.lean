/-
  The code of the program's functions as the evaluator takes it, printed by wip/tool/emit.py. SCheck ties each to the translation. No condition.
-/
import Derived.Test.YtlkgpcfhpeilhaaEv
namespace Go.Proofs.Ytlkgpcfhpeilhaa.Ev
open Go Go.AEv

-- numnah/sample.Chances
-- c39_o0: 0=[] 1=[f] 2=[t]
-- c39_o1: 3=[f, f] 4=[t, f] 5=[f, t] 6=[t, t] 7=[f, f, f] 8=[t, f, f]
-- c39_o2: 
-- c39_o3: 3=[f, f] 4=[t, f] 5=[f, t] 6=[t, t] 7=[f, f, f] 8=[t, f, f]
-- c39_o4: 3=[f, f] 4=[t, f] 5=[f, t] 6=[t, t] 7=[f, f, f] 8=[t, f, f] 9=[f, t, f]
-- c39_o5: 3=[f, f] 4=[t, f] 5=[f, t] 6=[t, t] 7=[f, f, f] 8=[t, f, f] 9=[f, t, f] 10=[t, t, f] 11=[f, f, t]
-- c39_o6: 3=[f, f] 4=[t, f] 9=[f, t, f] 10=[t, t, f] 11=[f, f, t] 13=[f, t, t]
-- c39_o7: 3=[f, f] 4=[t, f] 9=[f, t, f] 11=[f, f, t] 13=[f, t, t]
-- c39_o8: 3=[f, f] 4=[t, f] 9=[f, t, f] 10=[t, t, f] 11=[f, f, t] 31=[f, f, f, f, f]
-- c39_o9: 10=[t, t, f] 11=[f, f, t]
def c39_o0 : CCode := .trim [[], [false], [true]] (.ops [
  ⟨some [false, false], .box none (.s []), none⟩,
  ⟨some [true, false], .box none (.s [false]), none⟩,
  ⟨some [false, true], .box none (.s [true]), none⟩,
  ⟨some [true, true], .move (.c (.nils)), none⟩,
  ⟨some [false, false, false], .move (.c (.nils)), none⟩,
  ⟨some [true, false, false], .move (.c (.int .i64 0)), none⟩])
def c39_o1 : CCode := .trim [[false, false], [true, false], [false, true], [true, true], [false, false, false], [true, false, false]] (.ops [
  ⟨some [true, true, true], .load none (.s [false, false]), none⟩,
  ⟨some [false, false, false, false], .load none (.s [true, false]), none⟩,
  ⟨some [true, false, false, false], .call false (.c (.func 52 [])) [(.s [true, true, true]), (.s [false, false, false, false])], none⟩,
  ⟨some [false, true, false, false], .un .not (.s [true, false, false, false]), none⟩,
  ⟨some [true, true, false, false], .move (.s [false, true, false, false]), none⟩,
  ⟨some [false, false, true, false], .load none (.s [false, false]), some ([true, true, false, false], false)⟩,
  ⟨some [true, false, true, false], .load (some 2) (.s [false, true]), some ([true, true, false, false], false)⟩,
  ⟨some [false, true, true, false], .call false (.c (.func 62 [])) [(.s [false, false, true, false]), (.s [true, false, true, false])], some ([true, true, false, false], false)⟩,
  ⟨some [true, true, true, false], .un .not (.s [false, true, true, false]), some ([true, true, false, false], false)⟩,
  ⟨some [false, false, false, true], .pick (.s [true, true, false, false]) (.c (.bool true)) (.s [true, true, true, false]), none⟩])
def c39_o2 : CCode := .trim [] (.ops [
  ⟨some [true, true], .move (.c (.nils)), none⟩,
  ⟨some [false, false, false], .move (.c (.nils)), none⟩,
  ⟨some [true, false, false], .move (.c (.int .i64 2)), none⟩])
def c39_o3 : CCode := .trim [[false, false], [true, false], [false, true], [true, true], [false, false, false], [true, false, false]] (.ops [
  ⟨some [true, false, false, true], .call false (.c (.func 54 [])) [], none⟩,
  ⟨some [false, true, false], .alloc none [.nilp], none⟩,
  ⟨none, .store 1 (.s [false, true, false]) (.s [true, false, false, true]), none⟩])
def c39_o4 : CCode := .trim [[false, false], [true, false], [false, true], [true, true], [false, false, false], [true, false, false], [false, true, false]] (.ops [
  ⟨some [true, true, false], .alloc none [.nils], none⟩,
  ⟨some [false, false, true], .alloc none [.nils], none⟩])
def c39_o5 : CCode := .trim [[false, false], [true, false], [false, true], [true, true], [false, false, false], [true, false, false], [false, true, false], [true, true, false], [false, false, true]] (.ops [
  ⟨some [false, true, false, true], .load none (.s [false, true, false]), none⟩,
  ⟨some [true, true, false, true], .load none (.s [false, false]), none⟩,
  ⟨some [false, false, true, true], .load none (.s [true, false]), none⟩,
  ⟨some [true, false, true, true], .load (some 2) (.s [false, true]), none⟩,
  ⟨some [false, true, true, true], .call false (.c (.func 63 [])) [(.s [false, true, false, true]), (.s [true, true, false, true]), (.s [false, false, true, true]), (.s [true, false, true, true])], none⟩])
def c39_o6 : CCode := .trim [[false, false], [true, false], [false, true, false], [true, true, false], [false, false, true], [false, true, true]] (.draw 2 [
  ⟨some [true, false, false, false, false], .load none (.s [true, true, false]), none⟩,
  ⟨some [false, true, false, false, false], .fieldAddr 0 (.s [false, true, true]), none⟩,
  ⟨some [true, true, false, false, false], .load none (.s [false, true, false, false, false]), none⟩,
  ⟨some [false, false, true, false, false], .load none (.s [false, true, false]), none⟩,
  ⟨some [true, false, true, false, false], .load none (.s [false, false]), none⟩,
  ⟨some [false, true, true, false, false], .load none (.s [true, false]), none⟩,
  ⟨some [true, true, true, false, false], .call false (.c (.func 58 [])) [(.s [false, false, true, false, false]), (.s [true, false, true, false, false]), (.s [false, true, true, false, false])], none⟩,
  ⟨some [false, false, false, true, false], .call false (.c (.func 56 [])) [(.s [true, true, false, false, false]), (.s [true, true, true, false, false])], none⟩,
  ⟨some [true, false, false, true, false], .buildSlice (some 0) 2 1 [.int .i64 0, .int .i64 0] [(0, 2, (.s [false, false, false, true, false]))], none⟩,
  ⟨some [false, true, false, true, false], .append (some 1) 2 16 (.s [true, false, false, false, false]) (.s [true, false, false, true, false]), none⟩,
  ⟨none, .store 1 (.s [true, true, false]) (.s [false, true, false, true, false]), none⟩]
  [(0, 2), (0, 3), (2, 3), (0, 4), (2, 4), (3, 4), (0, 5), (2, 5), (3, 5), (4, 5), (0, 6), (2, 6), (0, 7), (0, 8)] [[], [], [1], [], [], [], [3, 4, 5], [1, 2, 3, 4, 5, 6], [1, 2, 3, 4, 5, 6, 7], [0, 1, 2, 3, 4, 5, 6, 7, 8], [0, 1, 2, 3, 4, 5, 6, 7, 8, 9]])
def c39_o7 : CCode := .trim [[false, false], [true, false], [false, true, false], [false, false, true], [false, true, true]] (.draw 2 [
  ⟨some [true, true, false, true, false], .load none (.s [false, false, true]), none⟩,
  ⟨some [false, false, true, true, false], .fieldAddr 1 (.s [false, true, true]), none⟩,
  ⟨some [true, false, true, true, false], .load none (.s [false, false, true, true, false]), none⟩,
  ⟨some [false, true, true, true, false], .load none (.s [false, true, false]), none⟩,
  ⟨some [true, true, true, true, false], .load none (.s [false, false]), none⟩,
  ⟨some [false, false, false, false, true], .load none (.s [true, false]), none⟩,
  ⟨some [true, false, false, false, true], .call false (.c (.func 58 [])) [(.s [false, true, true, true, false]), (.s [true, true, true, true, false]), (.s [false, false, false, false, true])], none⟩,
  ⟨some [false, true, false, false, true], .call false (.c (.func 56 [])) [(.s [true, false, true, true, false]), (.s [true, false, false, false, true])], none⟩,
  ⟨some [true, true, false, false, true], .buildSlice (some 0) 2 1 [.int .i64 0, .int .i64 0] [(0, 2, (.s [false, true, false, false, true]))], none⟩,
  ⟨some [false, false, true, false, true], .append (some 1) 2 16 (.s [true, true, false, true, false]) (.s [true, true, false, false, true]), none⟩,
  ⟨none, .store 1 (.s [false, false, true]) (.s [false, false, true, false, true]), none⟩]
  [(0, 2), (0, 3), (2, 3), (0, 4), (2, 4), (3, 4), (0, 5), (2, 5), (3, 5), (4, 5), (0, 6), (2, 6), (0, 7), (0, 8)] [[], [], [1], [], [], [], [3, 4, 5], [1, 2, 3, 4, 5, 6], [1, 2, 3, 4, 5, 6, 7], [0, 1, 2, 3, 4, 5, 6, 7, 8], [0, 1, 2, 3, 4, 5, 6, 7, 8, 9]])
def c39_r0 : CCode := (.block 1 (.seq c39_o6
 c39_o7))
def c39_o8 : CCode := .trim [[false, false], [true, false], [false, true, false], [true, true, false], [false, false, true], [false, false, false, false, false]] (.ops [
  ⟨some [false, true, true], .alloc none [.int .i64 0, .int .i64 0], none⟩,
  ⟨none, .store 2 (.s [false, true, true]) (.s [false, false, false, false, false]), none⟩])
def c39_o9 : CCode := .trim [[true, true, false], [false, false, true]] (.draw 0 [
  ⟨some [true, false, true, false, true], .load none (.s [true, true, false]), none⟩,
  ⟨some [false, true, true, false, true], .load none (.s [false, false, true]), none⟩,
  ⟨some [true, true], .move (.s [true, false, true, false, true]), none⟩,
  ⟨some [false, false, false], .move (.s [false, true, true, false, true]), none⟩,
  ⟨some [true, false, false], .move (.c (.int .i64 0)), none⟩]
  [(0, 1)] [[], [], [0], [0, 1, 2], [0, 1, 2, 3]])
def c39 : CFunc := { params := [[], [false], [true]], results := [.slot [true, true], .slot [false, false, false], .slot [true, false, false]], shared := false, body := (.seq c39_o0
 (.seq (.seq c39_o1
 (.cond (.s [false, false, false, true]) (.seq c39_o2
 .ret) .skip))
 (.seq c39_o3
 (.seq c39_o4
 (.seq (.seq c39_o5
 (.block 0 (.range (.s [false, true, true, true]) [[true, true, true, true], [false, false, false, false, false]] c39_o8 c39_r0)))
 (.seq c39_o9
 .ret)))))) }
-- numnah/numnahref05.Fits
-- c40_o0: 0=[] 1=[f]
-- c40_o1: 0=[] 3=[f, f]
-- c40_o2: 0=[] 3=[f, f] 5=[f, t]
-- c40_o3: 
-- c40_o4: 3=[f, f] 5=[f, t]
-- c40_o5: 3=[f, f] 5=[f, t] 6=[t, t]
-- c40_o6: 3=[f, f] 5=[f, t] 6=[t, t]
-- c40_o7: 3=[f, f] 5=[f, t] 6=[t, t] 7=[f, f, f] 8=[t, f, f]
-- c40_o8: 
-- c40_o9: 3=[f, f] 5=[f, t] 6=[t, t]
-- c40_l0: live slots [3, 5, 6]
-- c40_o10: 3=[f, f] 5=[f, t]
def c40_o0 : CCode := .trim [[], [false]] (.ops [
  ⟨some [false, false], .box none (.s [false]), none⟩,
  ⟨some [true, false], .move (.c (.bool false)), none⟩])
def c40_o1 : CCode := .trim [[], [false, false]] (.ops [
  ⟨some [false, true, false], .fieldAddr 0 (.s [false, false]), none⟩,
  ⟨some [true, true, false], .load none (.s [false, true, false]), none⟩,
  ⟨some [false, false, true], .len 1 (.s [true, true, false]), none⟩,
  ⟨some [false, true], .move (.s [false, false, true]), none⟩])
def c40_o2 : CCode := .trim [[], [false, false], [false, true]] (.ops [
  ⟨some [true, false, true], .fieldAddr 1 (.s [false, false]), none⟩,
  ⟨some [false, true, true], .load none (.s [true, false, true]), none⟩,
  ⟨some [true, true, true], .len 1 (.s [false, true, true]), none⟩,
  ⟨some [false, false, false, false], .move (.s [false, true]), none⟩,
  ⟨some [true, false, false, false], .bin .neq (.s [true, true, true]) (.s [false, false, false, false]), none⟩,
  ⟨some [false, true, false, false], .move (.s [true, false, false, false]), none⟩,
  ⟨some [true, true, false, false], .move (.s [false, true]), some ([false, true, false, false], false)⟩,
  ⟨some [false, false, true, false], .bin .lss (.s [true, true, false, false]) (.c (.int .i64 1)), some ([false, true, false, false], false)⟩,
  ⟨some [true, false, true, false], .pick (.s [false, true, false, false]) (.c (.bool true)) (.s [false, false, true, false]), none⟩,
  ⟨some [false, true, true, false], .move (.s [true, false, true, false]), none⟩,
  ⟨some [true, true, true, false], .move (.s [false, true]), some ([false, true, true, false], false)⟩,
  ⟨some [false, false, false, true], .move (.s []), some ([false, true, true, false], false)⟩,
  ⟨some [true, false, false, true], .bin .gtr (.s [true, true, true, false]) (.s [false, false, false, true]), some ([false, true, true, false], false)⟩,
  ⟨some [false, true, false, true], .pick (.s [false, true, true, false]) (.c (.bool true)) (.s [true, false, false, true]), none⟩])
def c40_o3 : CCode := .trim [] (.ops [
  ⟨some [true, false], .move (.c (.bool false)), none⟩])
def c40_o4 : CCode := .trim [[false, false], [false, true]] (.ops [
  ⟨some [true, true], .move (.c (.int .i64 0)), none⟩])
def c40_o5 : CCode := .trim [[false, false], [false, true], [true, true]] (.ops [
  ⟨some [true, true, false, true], .move (.s [true, true]), none⟩,
  ⟨some [false, false, true, true], .move (.s [false, true]), none⟩,
  ⟨some [true, false, true, true], .bin .lss (.s [true, true, false, true]) (.s [false, false, true, true]), none⟩])
def c40_o6 : CCode := .trim [[false, false], [false, true], [true, true]] (.draw 0 [
  ⟨some [false, false, false, false, false], .fieldAddr 0 (.s [false, false]), none⟩,
  ⟨some [true, false, false, false, false], .load none (.s [false, false, false, false, false]), none⟩,
  ⟨some [false, true, false, false, false], .move (.s [true, true]), none⟩,
  ⟨some [true, true, false, false, false], .idxSl 1 (.s [true, false, false, false, false]) (.s [false, true, false, false, false]), none⟩,
  ⟨some [false, false, true, false, false], .load none (.s [true, true, false, false, false]), none⟩,
  ⟨some [true, false, true, false, false], .fieldAddr 1 (.s [false, false]), none⟩,
  ⟨some [false, true, true, false, false], .load none (.s [true, false, true, false, false]), none⟩,
  ⟨some [true, true, true, false, false], .move (.s [true, true]), none⟩,
  ⟨some [false, false, false, true, false], .idxSl 1 (.s [false, true, true, false, false]) (.s [true, true, true, false, false]), none⟩,
  ⟨some [true, false, false, true, false], .load none (.s [false, false, false, true, false]), none⟩,
  ⟨some [false, false, false], .move (.s [false, false, true, false, false]), none⟩,
  ⟨some [true, false, false], .move (.s [true, false, false, true, false]), none⟩]
  [(1, 6), (4, 6), (1, 9), (4, 9)] [[], [0], [], [0, 1, 2], [0, 1, 2, 3], [], [5], [], [5, 6, 7], [5, 6, 7, 8], [0, 1, 2, 3, 4], [0, 1, 2, 3, 4, 5, 6, 7, 8, 9, 10]])
def c40_o7 : CCode := .trim [[false, false], [false, true], [true, true], [false, false, false], [true, false, false]] (.ops [
  ⟨some [false, true, false, true, false], .move (.s [false, false, false]), none⟩,
  ⟨some [true, true, false, true, false], .bin .lss (.s [false, true, false, true, false]) (.c (.int .i64 (-1))), none⟩,
  ⟨some [false, false, true, true, false], .move (.s [true, true, false, true, false]), none⟩,
  ⟨some [true, false, true, true, false], .move (.s [false, false, false]), some ([false, false, true, true, false], false)⟩,
  ⟨some [false, true, true, true, false], .move (.s [false, true]), some ([false, false, true, true, false], false)⟩,
  ⟨some [true, true, true, true, false], .bin .add (.s [false, true, true, true, false]) (.c (.int .i64 1)), some ([false, false, true, true, false], false)⟩,
  ⟨some [false, false, false, false, true], .bin .gtr (.s [true, false, true, true, false]) (.s [true, true, true, true, false]), some ([false, false, true, true, false], false)⟩,
  ⟨some [true, false, false, false, true], .pick (.s [false, false, true, true, false]) (.c (.bool true)) (.s [false, false, false, false, true]), none⟩,
  ⟨some [false, true, false, false, true], .move (.s [true, false, false, false, true]), none⟩,
  ⟨some [true, true, false, false, true], .move (.s [true, false, false]), some ([false, true, false, false, true], false)⟩,
  ⟨some [false, false, true, false, true], .bin .lss (.s [true, true, false, false, true]) (.c (.int .i64 (-1))), some ([false, true, false, false, true], false)⟩,
  ⟨some [true, false, true, false, true], .pick (.s [false, true, false, false, true]) (.c (.bool true)) (.s [false, false, true, false, true]), none⟩,
  ⟨some [false, true, true, false, true], .move (.s [true, false, true, false, true]), none⟩,
  ⟨some [true, true, true, false, true], .move (.s [true, false, false]), some ([false, true, true, false, true], false)⟩,
  ⟨some [false, false, false, true, true], .move (.s [false, true]), some ([false, true, true, false, true], false)⟩,
  ⟨some [true, false, false, true, true], .bin .add (.s [false, false, false, true, true]) (.c (.int .i64 1)), some ([false, true, true, false, true], false)⟩,
  ⟨some [false, true, false, true, true], .bin .gtr (.s [true, true, true, false, true]) (.s [true, false, false, true, true]), some ([false, true, true, false, true], false)⟩,
  ⟨some [true, true, false, true, true], .pick (.s [false, true, true, false, true]) (.c (.bool true)) (.s [false, true, false, true, true]), none⟩,
  ⟨some [false, false, true, true, true], .move (.s [true, true, false, true, true]), none⟩,
  ⟨some [true, false, true, true, true], .move (.s [false, false, false]), some ([false, false, true, true, true], false)⟩,
  ⟨some [false, true, true, true, true], .move (.s [true, false, false]), some ([false, false, true, true, true], false)⟩,
  ⟨some [true, true, true, true, true], .bin .geq (.s [true, false, true, true, true]) (.s [false, true, true, true, true]), some ([false, false, true, true, true], false)⟩,
  ⟨some [false, false, false, false, false, false], .pick (.s [false, false, true, true, true]) (.c (.bool true)) (.s [true, true, true, true, true]), none⟩])
def c40_o8 : CCode := .trim [] (.ops [
  ⟨some [true, false], .move (.c (.bool false)), none⟩])
def c40_o9 : CCode := .trim [[false, false], [false, true], [true, true]] (.ops [
  ⟨some [false, true, true, true], .move (.s [true, true]), none⟩,
  ⟨some [true, true, true, true], .bin .add (.s [false, true, true, true]) (.c (.int .i64 1)), none⟩,
  ⟨some [true, true], .move (.s [true, true, true, true]), none⟩])
def c40_b0 : CCode := (.seq (.seq c40_o5
 (.cond (.s [true, false, true, true]) .skip (.exit 0)))
 (.seq (.block 1 (.seq c40_o6
 (.seq c40_o7
 (.cond (.s [false, false, false, false, false, false]) (.seq c40_o8
 .ret) .skip))))
 c40_o9))
def c40_l0 : CCode := .loop [[false, false], [false, true], [true, true]] c40_b0
def c40_o10 : CCode := .trim [[false, false], [false, true]] (.draw 0 [
  ⟨some [true, false, false, false, false, false], .fieldAddr 1 (.s [false, false]), none⟩,
  ⟨some [false, true, false, false, false, false], .load none (.s [true, false, false, false, false, false]), none⟩,
  ⟨some [true, true, false, false, false, false], .move (.s [false, true]), none⟩,
  ⟨some [false, false, true, false, false, false], .bin .sub (.s [true, true, false, false, false, false]) (.c (.int .i64 1)), none⟩,
  ⟨some [true, false, true, false, false, false], .idxSl 1 (.s [false, true, false, false, false, false]) (.s [false, false, true, false, false, false]), none⟩,
  ⟨some [false, true, true, false, false, false], .load none (.s [true, false, true, false, false, false]), none⟩,
  ⟨some [true, true, true, false, false, false], .fieldAddr 0 (.s [false, false]), none⟩,
  ⟨some [false, false, false, true, false, false], .load none (.s [true, true, true, false, false, false]), none⟩,
  ⟨some [true, false, false, true, false, false], .move (.s [false, true]), none⟩,
  ⟨some [false, true, false, true, false, false], .bin .sub (.s [true, false, false, true, false, false]) (.c (.int .i64 1)), none⟩,
  ⟨some [true, true, false, true, false, false], .idxSl 1 (.s [false, false, false, true, false, false]) (.s [false, true, false, true, false, false]), none⟩,
  ⟨some [false, false, true, true, false, false], .load none (.s [true, true, false, true, false, false]), none⟩,
  ⟨some [true, false, true, true, false, false], .bin .add (.s [false, false, true, true, false, false]) (.c (.int .i64 1)), none⟩,
  ⟨some [false, true, true, true, false, false], .bin .eql (.s [false, true, true, false, false, false]) (.s [true, false, true, true, false, false]), none⟩,
  ⟨some [true, false], .move (.s [false, true, true, true, false, false]), none⟩]
  [(1, 7), (5, 7), (1, 11), (5, 11)] [[], [0], [], [2], [0, 1, 2, 3], [0, 1, 2, 3, 4], [], [6], [], [8], [6, 7, 8, 9], [6, 7, 8, 9, 10], [6, 7, 8, 9, 10, 11], [0, 1, 2, 3, 4, 5, 6, 7, 8, 9, 10, 11, 12], [0, 1, 2, 3, 4, 5, 6, 7, 8, 9, 10, 11, 12, 13]])
def c40 : CFunc := { params := [[], [false]], results := [.slot [true, false]], shared := false, body := (.seq c40_o0
 (.seq c40_o1
 (.seq (.seq c40_o2
 (.cond (.s [false, true, false, true]) (.seq c40_o3
 .ret) .skip))
 (.seq (.seq c40_o4
 (.block 0 c40_l0))
 (.seq c40_o10
 .ret))))) }
-- numnah/numnahref05.Course
-- c41_o0: 0=[] 1=[f] 2=[t]
-- c41_o1: 0=[] 1=[f] 5=[f, t]
-- c41_o2: 8=[t, f, f] 9=[f, t, f]
-- c41_o3: 8=[t, f, f] 9=[f, t, f] 10=[t, t, f] 11=[f, f, t]
-- c41_o4: 8=[t, f, f] 9=[f, t, f] 10=[t, t, f] 11=[f, f, t] 12=[t, f, t]
-- c41_o5: 8=[t, f, f] 9=[f, t, f] 10=[t, t, f] 11=[f, f, t] 12=[t, f, t]
-- c41_o6: 8=[t, f, f] 9=[f, t, f] 10=[t, t, f] 11=[f, f, t] 12=[t, f, t]
-- c41_o7: 8=[t, f, f] 9=[f, t, f] 10=[t, t, f] 11=[f, f, t] 12=[t, f, t]
-- c41_l0: live slots [8, 9, 10, 11, 12]
-- c41_o8: 10=[t, t, f] 11=[f, f, t]
def c41_o0 : CCode := .trim [[], [false], [true]] (.ops [
  ⟨some [false, true], .box none (.s [true]), none⟩,
  ⟨some [true, true], .move (.c (.int .i64 0)), none⟩,
  ⟨some [false, false, false], .move (.c (.int .i64 0)), none⟩])
def c41_o1 : CCode := .trim [[], [false], [false, true]] (.ops [
  ⟨some [true, true, true], .move (.s []), none⟩,
  ⟨some [false, false, false, false], .move (.s [false]), none⟩,
  ⟨some [true, false, false, false], .load (some 2) (.s [false, true]), none⟩,
  ⟨some [false, true, false, false], .call false (.c (.func 42 [])) [(.s [true, true, true]), (.s [false, false, false, false]), (.s [true, false, false, false])], none⟩,
  ⟨some [false, true, true], .move (.s [false, true, false, false]), none⟩,
  ⟨some [true, true, false, false], .extract 0 (.s [false, true, true]), none⟩,
  ⟨some [false, false, true, false], .extract 1 (.s [false, true, true]), none⟩,
  ⟨some [true, false, false], .move (.s [true, true, false, false]), none⟩,
  ⟨some [false, true, false], .move (.s [false, false, true, false]), none⟩])
def c41_o2 : CCode := .trim [[true, false, false], [false, true, false]] (.ops [
  ⟨some [true, true, false], .move (.c (.int .i64 0)), none⟩,
  ⟨some [false, false, true], .move (.c (.int .i64 0)), none⟩])
def c41_o3 : CCode := .trim [[true, false, false], [false, true, false], [true, true, false], [false, false, true]] (.ops [
  ⟨some [true, false, true], .move (.c (.int .i64 0)), none⟩])
def c41_o4 : CCode := .trim [[true, false, false], [false, true, false], [true, true, false], [false, false, true], [true, false, true]] (.ops [
  ⟨some [true, false, true, false], .move (.s [true, false, true]), none⟩,
  ⟨some [false, true, true, false], .move (.s [true, false, false]), none⟩,
  ⟨some [true, true, true, false], .len 1 (.s [false, true, true, false]), none⟩,
  ⟨some [false, false, false, true], .bin .lss (.s [true, false, true, false]) (.s [true, true, true, false]), none⟩])
def c41_o5 : CCode := .trim [[true, false, false], [false, true, false], [true, true, false], [false, false, true], [true, false, true]] (.ops [
  ⟨some [true, true, false, true], .move (.s [true, true, false]), none⟩,
  ⟨some [false, false, true, true], .move (.s [true, false, false]), none⟩,
  ⟨some [true, false, true, true], .move (.s [true, false, true]), none⟩,
  ⟨some [false, true, true, true], .idxSl 1 (.s [false, false, true, true]) (.s [true, false, true, true]), none⟩,
  ⟨some [true, true, true, true], .load none (.s [false, true, true, true]), none⟩,
  ⟨some [false, false, false, false, false], .bin .add (.s [true, true, false, true]) (.s [true, true, true, true]), none⟩,
  ⟨some [true, true, false], .move (.s [false, false, false, false, false]), none⟩])
def c41_o6 : CCode := .trim [[true, false, false], [false, true, false], [true, true, false], [false, false, true], [true, false, true]] (.draw 0 [
  ⟨some [true, false, false, false, false], .move (.s [false, false, true]), none⟩,
  ⟨some [false, true, false, false, false], .move (.s [true, false, true]), none⟩,
  ⟨some [true, true, false, false, false], .bin .add (.s [false, true, false, false, false]) (.c (.int .i64 1)), none⟩,
  ⟨some [false, false, true, false, false], .move (.s [true, false, false]), none⟩,
  ⟨some [true, false, true, false, false], .move (.s [true, false, true]), none⟩,
  ⟨some [false, true, true, false, false], .idxSl 1 (.s [false, false, true, false, false]) (.s [true, false, true, false, false]), none⟩,
  ⟨some [true, true, true, false, false], .load none (.s [false, true, true, false, false]), none⟩,
  ⟨some [false, false, false, true, false], .move (.s [false, true, false]), none⟩,
  ⟨some [true, false, false, true, false], .move (.s [true, false, true]), none⟩,
  ⟨some [false, true, false, true, false], .idxSl 1 (.s [false, false, false, true, false]) (.s [true, false, false, true, false]), none⟩,
  ⟨some [true, true, false, true, false], .load none (.s [false, true, false, true, false]), none⟩,
  ⟨some [false, false, true, true, false], .bin .add (.s [true, true, true, false, false]) (.s [true, true, false, true, false]), none⟩,
  ⟨some [true, false, true, true, false], .bin .mul (.s [true, true, false, false, false]) (.s [false, false, true, true, false]), none⟩,
  ⟨some [false, true, true, true, false], .bin .add (.s [true, false, false, false, false]) (.s [true, false, true, true, false]), none⟩,
  ⟨some [false, false, true], .move (.s [false, true, true, true, false]), none⟩]
  [(6, 10)] [[], [], [1], [], [], [3, 4], [3, 4, 5], [], [], [7, 8], [7, 8, 9], [3, 4, 5, 6, 7, 8, 9, 10], [1, 2, 3, 4, 5, 6, 7, 8, 9, 10, 11], [0, 1, 2, 3, 4, 5, 6, 7, 8, 9, 10, 11, 12], [0, 1, 2, 3, 4, 5, 6, 7, 8, 9, 10, 11, 12, 13]])
def c41_o7 : CCode := .trim [[true, false, false], [false, true, false], [true, true, false], [false, false, true], [true, false, true]] (.ops [
  ⟨some [true, false, false, true], .move (.s [true, false, true]), none⟩,
  ⟨some [false, true, false, true], .bin .add (.s [true, false, false, true]) (.c (.int .i64 1)), none⟩,
  ⟨some [true, false, true], .move (.s [false, true, false, true]), none⟩])
def c41_b0 : CCode := (.seq (.seq c41_o4
 (.cond (.s [false, false, false, true]) .skip (.exit 0)))
 (.seq (.block 1 (.seq c41_o5
 c41_o6))
 c41_o7))
def c41_l0 : CCode := .loop [[true, false, false], [false, true, false], [true, true, false], [false, false, true], [true, false, true]] c41_b0
def c41_o8 : CCode := .trim [[true, true, false], [false, false, true]] (.ops [
  ⟨some [true, true, true, true, false], .move (.s [true, true, false]), none⟩,
  ⟨some [false, false, false, false, true], .move (.s [false, false, true]), none⟩,
  ⟨some [true, true], .move (.s [true, true, true, true, false]), none⟩,
  ⟨some [false, false, false], .move (.s [false, false, false, false, true]), none⟩])
def c41 : CFunc := { params := [[], [false], [true]], results := [.slot [true, true], .slot [false, false, false]], shared := false, body := (.seq c41_o0
 (.seq c41_o1
 (.seq c41_o2
 (.seq (.seq c41_o3
 (.block 0 c41_l0))
 (.seq c41_o8
 .ret))))) }
-- numnah/numnahref05.Chances
-- c42_o0: 0=[] 1=[f] 2=[t]
-- c42_o1: 0=[] 1=[f] 5=[f, t]
-- c42_o2: 0=[] 1=[f] 5=[f, t] 8=[t, f, f]
-- c42_o3: 0=[] 1=[f] 5=[f, t] 8=[t, f, f] 9=[f, t, f] 10=[t, t, f]
-- c42_o4: 0=[] 1=[f] 5=[f, t] 8=[t, f, f] 9=[f, t, f] 10=[t, t, f] 11=[f, f, t]
-- c42_o5: 0=[] 1=[f] 5=[f, t] 8=[t, f, f] 9=[f, t, f] 10=[t, t, f] 11=[f, f, t]
-- c42_o6: 0=[] 1=[f] 5=[f, t] 8=[t, f, f] 9=[f, t, f] 10=[t, t, f] 11=[f, f, t] 12=[t, f, t]
-- c42_o7: 0=[] 1=[f] 5=[f, t] 8=[t, f, f] 9=[f, t, f] 10=[t, t, f] 11=[f, f, t] 12=[t, f, t] 13=[f, t, t] 14=[t, t, t]
-- c42_o8: 0=[] 1=[f] 5=[f, t] 8=[t, f, f] 9=[f, t, f] 10=[t, t, f] 11=[f, f, t] 12=[t, f, t] 13=[f, t, t] 14=[t, t, t] 15=[f, f, f, f]
-- c42_o9: 0=[] 1=[f] 5=[f, t] 8=[t, f, f] 9=[f, t, f] 10=[t, t, f] 11=[f, f, t] 12=[t, f, t] 13=[f, t, t] 14=[t, t, t] 15=[f, f, f, f]
-- c42_o10: 0=[] 1=[f] 5=[f, t] 8=[t, f, f] 9=[f, t, f] 10=[t, t, f] 11=[f, f, t] 12=[t, f, t] 13=[f, t, t] 14=[t, t, t] 15=[f, f, f, f]
-- c42_o11: 0=[] 1=[f] 5=[f, t] 8=[t, f, f] 9=[f, t, f] 10=[t, t, f] 11=[f, f, t] 12=[t, f, t] 13=[f, t, t] 14=[t, t, t] 15=[f, f, f, f]
-- c42_o12: 0=[] 1=[f] 5=[f, t] 8=[t, f, f] 9=[f, t, f] 10=[t, t, f] 11=[f, f, t] 12=[t, f, t] 13=[f, t, t] 14=[t, t, t] 15=[f, f, f, f]
-- c42_o13: 0=[] 1=[f] 5=[f, t] 8=[t, f, f] 9=[f, t, f] 10=[t, t, f] 11=[f, f, t] 12=[t, f, t] 13=[f, t, t] 14=[t, t, t] 15=[f, f, f, f]
-- c42_o14: 0=[] 1=[f] 5=[f, t] 8=[t, f, f] 9=[f, t, f] 10=[t, t, f] 11=[f, f, t] 12=[t, f, t] 13=[f, t, t] 14=[t, t, t] 15=[f, f, f, f] 16=[t, f, f, f]
-- c42_o15: 0=[] 1=[f] 5=[f, t] 8=[t, f, f] 9=[f, t, f] 10=[t, t, f] 11=[f, f, t] 12=[t, f, t] 13=[f, t, t] 14=[t, t, t] 15=[f, f, f, f] 16=[t, f, f, f] 73=[f, t, f, t, f, f]
-- c42_o16: 0=[] 1=[f] 5=[f, t] 8=[t, f, f] 9=[f, t, f] 10=[t, t, f] 11=[f, f, t] 12=[t, f, t] 13=[f, t, t] 14=[t, t, t] 15=[f, f, f, f] 16=[t, f, f, f]
-- c42_o17: 0=[] 1=[f] 5=[f, t] 8=[t, f, f] 9=[f, t, f] 10=[t, t, f] 11=[f, f, t] 12=[t, f, t] 13=[f, t, t] 14=[t, t, t] 15=[f, f, f, f]
-- c42_o18: 0=[] 1=[f] 5=[f, t] 8=[t, f, f] 9=[f, t, f] 10=[t, t, f] 11=[f, f, t] 12=[t, f, t] 13=[f, t, t] 14=[t, t, t] 15=[f, f, f, f] 16=[t, f, f, f] 73=[f, t, f, t, f, f]
-- c42_o19: 0=[] 1=[f] 5=[f, t] 8=[t, f, f] 9=[f, t, f] 10=[t, t, f] 11=[f, f, t] 12=[t, f, t] 13=[f, t, t] 14=[t, t, t] 15=[f, f, f, f] 16=[t, f, f, f]
-- c42_o20: 0=[] 1=[f] 5=[f, t] 8=[t, f, f] 9=[f, t, f] 10=[t, t, f] 11=[f, f, t] 12=[t, f, t] 13=[f, t, t] 14=[t, t, t] 15=[f, f, f, f]
-- c42_o21: 0=[] 1=[f] 5=[f, t] 8=[t, f, f] 9=[f, t, f] 10=[t, t, f] 11=[f, f, t] 12=[t, f, t] 13=[f, t, t] 14=[t, t, t] 15=[f, f, f, f]
-- c42_l0: live slots [0, 1, 5, 8, 9, 10, 11, 12, 13, 14, 15]
-- c42_o22: 0=[] 1=[f] 5=[f, t] 9=[f, t, f] 10=[t, t, f] 11=[f, f, t] 12=[t, f, t] 13=[f, t, t] 14=[t, t, t]
-- c42_o23: 0=[] 1=[f] 5=[f, t] 9=[f, t, f] 10=[t, t, f] 11=[f, f, t] 12=[t, f, t] 14=[t, t, t]
-- c42_o24: 0=[] 1=[f] 5=[f, t] 9=[f, t, f] 10=[t, t, f] 11=[f, f, t] 12=[t, f, t]
-- c42_o25: 0=[] 1=[f] 5=[f, t] 8=[t, f, f] 9=[f, t, f] 10=[t, t, f] 11=[f, f, t]
-- c42_l1: live slots [0, 1, 5, 8, 9, 10, 11]
-- c42_o26: 9=[f, t, f] 10=[t, t, f]
def c42_o0 : CCode := .trim [[], [false], [true]] (.ops [
  ⟨some [false, true], .box none (.s [true]), none⟩,
  ⟨some [true, true], .move (.c (.nils)), none⟩,
  ⟨some [false, false, false], .move (.c (.nils)), none⟩])
def c42_o1 : CCode := .trim [[], [false], [false, true]] (.ops [
  ⟨some [false, true, false, false], .buildSlice none 1 1 [.int .i64 0] [(0, 1, (.c (.int .i64 1)))], none⟩,
  ⟨some [true, false, false], .move (.s [false, true, false, false]), none⟩])
def c42_o2 : CCode := .trim [[], [false], [false, true], [true, false, false]] (.ops [
  ⟨some [false, true, false], .move (.c (.nils)), none⟩,
  ⟨some [true, true, false], .move (.c (.nils)), none⟩])
def c42_o3 : CCode := .trim [[], [false], [false, true], [true, false, false], [false, true, false], [true, true, false]] (.ops [
  ⟨some [false, false, true], .move (.c (.int .i64 1)), none⟩])
def c42_o4 : CCode := .trim [[], [false], [false, true], [true, false, false], [false, true, false], [true, true, false], [false, false, true]] (.ops [
  ⟨some [true, true, false, false], .move (.s [false, false, true]), none⟩,
  ⟨some [false, false, true, false], .fieldAddr 0 (.s [false, true]), none⟩,
  ⟨some [true, false, true, false], .load none (.s [false, false, true, false]), none⟩,
  ⟨some [false, true, true, false], .len 1 (.s [true, false, true, false]), none⟩,
  ⟨some [true, true, true, false], .bin .leq (.s [true, true, false, false]) (.s [false, true, true, false]), none⟩])
def c42_o5 : CCode := .trim [[], [false], [false, true], [true, false, false], [false, true, false], [true, true, false], [false, false, true]] (.ops [
  ⟨some [false, true, false, true], .move (.s [false, false, true]), none⟩,
  ⟨some [true, true, false, true], .bin .add (.s [false, true, false, true]) (.c (.int .i64 1)), none⟩,
  ⟨some [false, false, true, true], .makeSlice none 1 8 [.int .i64 0] (.s [true, true, false, true]), none⟩,
  ⟨some [true, false, true], .move (.s [false, false, true, true]), none⟩])
def c42_o6 : CCode := .trim [[], [false], [false, true], [true, false, false], [false, true, false], [true, true, false], [false, false, true], [true, false, true]] (.ops [
  ⟨some [false, true, true], .move (.c (.int .i64 0)), none⟩,
  ⟨some [true, true, true], .move (.c (.int .i64 0)), none⟩])
def c42_o7 : CCode := .trim [[], [false], [false, true], [true, false, false], [false, true, false], [true, true, false], [false, false, true], [true, false, true], [false, true, true], [true, true, true]] (.ops [
  ⟨some [false, false, false, false], .move (.c (.int .i64 0)), none⟩])
def c42_o8 : CCode := .trim [[], [false], [false, true], [true, false, false], [false, true, false], [true, true, false], [false, false, true], [true, false, true], [false, true, true], [true, true, true], [false, false, false, false]] (.ops [
  ⟨some [true, false, true, true], .move (.s [false, false, false, false]), none⟩,
  ⟨some [false, true, true, true], .move (.s [false, false, true]), none⟩,
  ⟨some [true, true, true, true], .bin .leq (.s [true, false, true, true]) (.s [false, true, true, true]), none⟩])
def c42_o9 : CCode := .trim [[], [false], [false, true], [true, false, false], [false, true, false], [true, true, false], [false, false, true], [true, false, true], [false, true, true], [true, true, true], [false, false, false, false]] (.ops [
  ⟨some [false, true, false, false, false], .move (.s [false, false, false, false]), none⟩,
  ⟨some [true, true, false, false, false], .move (.s [false, false, true]), none⟩,
  ⟨some [false, false, true, false, false], .bin .lss (.s [false, true, false, false, false]) (.s [true, true, false, false, false]), none⟩])
def c42_o10 : CCode := .trim [[], [false], [false, true], [true, false, false], [false, true, false], [true, true, false], [false, false, true], [true, false, true], [false, true, true], [true, true, true], [false, false, false, false]] (.ops [
  ⟨some [true, false, true, false, false], .move (.s [true, false, true]), none⟩,
  ⟨some [false, true, true, false, false], .move (.s [false, false, false, false]), none⟩,
  ⟨some [true, true, true, false, false], .move (.s [true, false, false]), none⟩,
  ⟨some [false, false, false, true, false], .move (.s [false, false, false, false]), none⟩,
  ⟨some [true, false, false, true, false], .idxSl 1 (.s [true, true, true, false, false]) (.s [false, false, false, true, false]), none⟩,
  ⟨some [false, true, false, true, false], .load none (.s [true, false, false, true, false]), none⟩,
  ⟨some [true, true, false, true, false], .idxSl 1 (.s [true, false, true, false, false]) (.s [false, true, true, false, false]), none⟩,
  ⟨none, .store 1 (.s [true, true, false, true, false]) (.s [false, true, false, true, false]), none⟩])
def c42_o11 : CCode := .trim [[], [false], [false, true], [true, false, false], [false, true, false], [true, true, false], [false, false, true], [true, false, true], [false, true, true], [true, true, true], [false, false, false, false]] (.ops [
  ⟨some [false, false, true, true, false], .move (.s [false, false, false, false]), none⟩,
  ⟨some [true, false, true, true, false], .bin .gtr (.s [false, false, true, true, false]) (.c (.int .i64 0)), none⟩])
def c42_o12 : CCode := .trim [[], [false], [false, true], [true, false, false], [false, true, false], [true, true, false], [false, false, true], [true, false, true], [false, true, true], [true, true, true], [false, false, false, false]] (.draw 0 [
  ⟨some [false, true, true, true, false], .move (.s [true, false, true]), none⟩,
  ⟨some [true, true, true, true, false], .move (.s [false, false, false, false]), none⟩,
  ⟨some [false, false, false, false, true], .move (.s [true, false, true]), none⟩,
  ⟨some [true, false, false, false, true], .move (.s [false, false, false, false]), none⟩,
  ⟨some [false, true, false, false, true], .idxSl 1 (.s [false, false, false, false, true]) (.s [true, false, false, false, true]), none⟩,
  ⟨some [true, true, false, false, true], .load none (.s [false, true, false, false, true]), none⟩,
  ⟨some [false, false, true, false, true], .move (.s [true, false, false]), none⟩,
  ⟨some [true, false, true, false, true], .move (.s [false, false, false, false]), none⟩,
  ⟨some [false, true, true, false, true], .bin .sub (.s [true, false, true, false, true]) (.c (.int .i64 1)), none⟩,
  ⟨some [true, true, true, false, true], .idxSl 1 (.s [false, false, true, false, true]) (.s [false, true, true, false, true]), none⟩,
  ⟨some [false, false, false, true, true], .load none (.s [true, true, true, false, true]), none⟩,
  ⟨some [true, false, false, true, true], .bin .add (.s [true, true, false, false, true]) (.s [false, false, false, true, true]), none⟩,
  ⟨some [false, true, false, true, true], .idxSl 1 (.s [false, true, true, true, false]) (.s [true, true, true, true, false]), none⟩,
  ⟨none, .store 1 (.s [false, true, false, true, true]) (.s [true, false, false, true, true]), none⟩]
  [(5, 10)] [[], [], [], [], [2, 3], [2, 3, 4], [], [], [7], [6, 7, 8], [6, 7, 8, 9], [2, 3, 4, 5, 6, 7, 8, 9, 10], [0, 1, 2, 3, 4, 5, 6, 7, 8, 9, 10, 11], [0, 1, 2, 3, 4, 5, 6, 7, 8, 9, 10, 11, 12]])
def c42_o13 : CCode := .trim [[], [false], [false, true], [true, false, false], [false, true, false], [true, true, false], [false, false, true], [true, false, true], [false, true, true], [true, true, true], [false, false, false, false]] (.draw 0 [
  ⟨some [true, true, false, true, true], .move (.s [true, false, true]), none⟩,
  ⟨some [false, false, true, true, true], .move (.s [false, false, false, false]), none⟩,
  ⟨some [true, false, true, true, true], .idxSl 1 (.s [true, true, false, true, true]) (.s [false, false, true, true, true]), none⟩,
  ⟨some [false, true, true, true, true], .load none (.s [true, false, true, true, true]), none⟩,
  ⟨some [true, true, true, true, true], .move (.s []), none⟩,
  ⟨some [false, false, false, false, false, false], .move (.s [false, false, true]), none⟩,
  ⟨some [true, false, false, false, false, false], .bin .sub (.s [true, true, true, true, true]) (.s [false, false, false, false, false, false]), none⟩,
  ⟨some [false, true, false, false, false, false], .move (.s [false]), none⟩,
  ⟨some [true, true, false, false, false, false], .move (.s [false, false, false, false]), none⟩,
  ⟨some [false, false, true, false, false, false], .bin .sub (.s [false, true, false, false, false, false]) (.s [true, true, false, false, false, false]), none⟩,
  ⟨some [true, false, true, false, false, false], .call false (.c (.func 29 [])) [(.s [true, false, false, false, false, false]), (.s [false, false, true, false, false, false])], none⟩,
  ⟨some [false, true, true, false, false, false], .bin .mul (.s [false, true, true, true, true]) (.s [true, false, true, false, false, false]), none⟩,
  ⟨some [true, false, false, false], .move (.s [false, true, true, false, false, false]), none⟩]
  [(3, 10)] [[], [], [0, 1], [0, 1, 2], [], [], [4, 5], [], [], [7, 8], [4, 5, 6, 7, 8, 9], [0, 1, 2, 3, 4, 5, 6, 7, 8, 9, 10], [0, 1, 2, 3, 4, 5, 6, 7, 8, 9, 10, 11]])
def c42_o14 : CCode := .trim [[], [false], [false, true], [true, false, false], [false, true, false], [true, true, false], [false, false, true], [true, false, true], [false, true, true], [true, true, true], [false, false, false, false], [true, false, false, false]] (.ops [
  ⟨some [true, true, true, false, false, false], .load (some 2) (.s [false, true]), none⟩,
  ⟨some [false, false, false, true, false, false], .move (.s [false, false, true]), none⟩,
  ⟨some [true, false, false, true, false, false], .move (.s [false, false, false, false]), none⟩,
  ⟨some [false, true, false, true, false, false], .call false (.c (.func 65 [])) [(.s [true, true, true, false, false, false]), (.s [false, false, false, true, false, false]), (.s [true, false, false, true, false, false])], none⟩])
def c42_o15 : CCode := .trim [[], [false], [false, true], [true, false, false], [false, true, false], [true, true, false], [false, false, true], [true, false, true], [false, true, true], [true, true, true], [false, false, false, false], [true, false, false, false], [false, true, false, true, false, false]] (.ops [
  ⟨some [false, false, true, true, false, false], .bin .eql (.s [false, true, false, true, false, false]) (.c (.int .i64 1)), none⟩,
  ⟨some [true, true, false, true, false, false], .move (.s [false, false, true, true, false, false]), none⟩])
def c42_o16 : CCode := .trim [[], [false], [false, true], [true, false, false], [false, true, false], [true, true, false], [false, false, true], [true, false, true], [false, true, true], [true, true, true], [false, false, false, false], [true, false, false, false]] (.ops [
  ⟨some [true, false, true, true, false, false], .move (.s [false, true, true]), none⟩,
  ⟨some [false, true, true, true, false, false], .move (.s [true, false, false, false]), none⟩,
  ⟨some [true, true, true, true, false, false], .bin .add (.s [true, false, true, true, false, false]) (.s [false, true, true, true, false, false]), none⟩,
  ⟨some [false, true, true], .move (.s [true, true, true, true, false, false]), none⟩])
def c42_o17 : CCode := .trim [[], [false], [false, true], [true, false, false], [false, true, false], [true, true, false], [false, false, true], [true, false, true], [false, true, true], [true, true, true], [false, false, false, false]] (.ops [
  ⟨some [false, false, false, false, true, false], .move (.s [true, false, true]), none⟩,
  ⟨some [true, false, false, false, true, false], .move (.s [false, false, false, false]), none⟩,
  ⟨some [false, true, false, false, true, false], .idxSl 1 (.s [false, false, false, false, true, false]) (.s [true, false, false, false, true, false]), none⟩,
  ⟨none, .store 1 (.s [false, true, false, false, true, false]) (.c (.int .i64 0)), none⟩])
def c42_o18 : CCode := .trim [[], [false], [false, true], [true, false, false], [false, true, false], [true, true, false], [false, false, true], [true, false, true], [false, true, true], [true, true, true], [false, false, false, false], [true, false, false, false], [false, true, false, true, false, false]] (.ops [
  ⟨some [false, false, true, false, true, false], .bin .eql (.s [false, true, false, true, false, false]) (.c (.int .i64 (-1))), none⟩,
  ⟨some [true, true, false, false, true, false], .move (.s [false, false, true, false, true, false]), none⟩])
def c42_o19 : CCode := .trim [[], [false], [false, true], [true, false, false], [false, true, false], [true, true, false], [false, false, true], [true, false, true], [false, true, true], [true, true, true], [false, false, false, false], [true, false, false, false]] (.ops [
  ⟨some [true, false, true, false, true, false], .move (.s [true, true, true]), none⟩,
  ⟨some [false, true, true, false, true, false], .move (.s [true, false, false, false]), none⟩,
  ⟨some [true, true, true, false, true, false], .bin .add (.s [true, false, true, false, true, false]) (.s [false, true, true, false, true, false]), none⟩,
  ⟨some [true, true, true], .move (.s [true, true, true, false, true, false]), none⟩])
def c42_o20 : CCode := .trim [[], [false], [false, true], [true, false, false], [false, true, false], [true, true, false], [false, false, true], [true, false, true], [false, true, true], [true, true, true], [false, false, false, false]] (.ops [
  ⟨some [false, false, false, true, true, false], .move (.s [true, false, true]), none⟩,
  ⟨some [true, false, false, true, true, false], .move (.s [false, false, false, false]), none⟩,
  ⟨some [false, true, false, true, true, false], .idxSl 1 (.s [false, false, false, true, true, false]) (.s [true, false, false, true, true, false]), none⟩,
  ⟨none, .store 1 (.s [false, true, false, true, true, false]) (.c (.int .i64 0)), none⟩])
def c42_o21 : CCode := .trim [[], [false], [false, true], [true, false, false], [false, true, false], [true, true, false], [false, false, true], [true, false, true], [false, true, true], [true, true, true], [false, false, false, false]] (.ops [
  ⟨some [false, false, false, false, false], .move (.s [false, false, false, false]), none⟩,
  ⟨some [true, false, false, false, false], .bin .add (.s [false, false, false, false, false]) (.c (.int .i64 1)), none⟩,
  ⟨some [false, false, false, false], .move (.s [true, false, false, false, false]), none⟩])
def c42_b0 : CCode := (.seq (.seq c42_o8
 (.cond (.s [true, true, true, true]) .skip (.exit 2)))
 (.seq (.block 3 (.seq (.seq c42_o9
 (.cond (.s [false, false, true, false, false]) c42_o10 .skip))
 (.seq (.seq c42_o11
 (.cond (.s [true, false, true, true, false]) c42_o12 .skip))
 (.seq c42_o13
 (.seq c42_o14
 (.block 4 (.seq c42_o15
 (.cond (.s [true, true, false, true, false, false]) (.seq c42_o16
 c42_o17) (.seq c42_o18
 (.cond (.s [true, true, false, false, true, false]) (.seq c42_o19
 c42_o20) .skip))))))))))
 c42_o21))
def c42_l0 : CCode := .loop [[], [false], [false, true], [true, false, false], [false, true, false], [true, true, false], [false, false, true], [true, false, true], [false, true, true], [true, true, true], [false, false, false, false]] c42_b0
def c42_o22 : CCode := .trim [[], [false], [false, true], [false, true, false], [true, true, false], [false, false, true], [true, false, true], [false, true, true], [true, true, true]] (.ops [
  ⟨some [true, true, false, true, true, false], .move (.s [false, true, false]), none⟩,
  ⟨some [false, false, true, true, true, false], .move (.s [false, true, true]), none⟩,
  ⟨some [true, false, true, true, true, false], .buildSlice none 1 1 [.int .i64 0] [(0, 1, (.s [false, false, true, true, true, false]))], none⟩,
  ⟨some [false, true, true, true, true, false], .append none 1 8 (.s [true, true, false, true, true, false]) (.s [true, false, true, true, true, false]), none⟩,
  ⟨some [false, true, false], .move (.s [false, true, true, true, true, false]), none⟩])
def c42_o23 : CCode := .trim [[], [false], [false, true], [false, true, false], [true, true, false], [false, false, true], [true, false, true], [true, true, true]] (.ops [
  ⟨some [true, true, true, true, true, false], .move (.s [true, true, false]), none⟩,
  ⟨some [false, false, false, false, false, true], .move (.s [true, true, true]), none⟩,
  ⟨some [true, false, false, false, false, true], .buildSlice none 1 1 [.int .i64 0] [(0, 1, (.s [false, false, false, false, false, true]))], none⟩,
  ⟨some [false, true, false, false, false, true], .append none 1 8 (.s [true, true, true, true, true, false]) (.s [true, false, false, false, false, true]), none⟩,
  ⟨some [true, true, false], .move (.s [false, true, false, false, false, true]), none⟩])
def c42_o24 : CCode := .trim [[], [false], [false, true], [false, true, false], [true, true, false], [false, false, true], [true, false, true]] (.ops [
  ⟨some [true, true, false, false, false, true], .move (.s [true, false, true]), none⟩,
  ⟨some [true, false, false], .move (.s [true, true, false, false, false, true]), none⟩])
def c42_o25 : CCode := .trim [[], [false], [false, true], [true, false, false], [false, true, false], [true, true, false], [false, false, true]] (.ops [
  ⟨some [false, false, false, true], .move (.s [false, false, true]), none⟩,
  ⟨some [true, false, false, true], .bin .add (.s [false, false, false, true]) (.c (.int .i64 1)), none⟩,
  ⟨some [false, false, true], .move (.s [true, false, false, true]), none⟩])
def c42_b1 : CCode := (.seq (.seq c42_o4
 (.cond (.s [true, true, true, false]) .skip (.exit 0)))
 (.seq (.block 1 (.seq c42_o5
 (.seq c42_o6
 (.seq (.seq c42_o7
 (.block 2 c42_l0))
 (.seq c42_o22
 (.seq c42_o23
 c42_o24))))))
 c42_o25))
def c42_l1 : CCode := .loop [[], [false], [false, true], [true, false, false], [false, true, false], [true, true, false], [false, false, true]] c42_b1
def c42_o26 : CCode := .trim [[false, true, false], [true, true, false]] (.ops [
  ⟨some [false, false, true, false, false, true], .move (.s [false, true, false]), none⟩,
  ⟨some [true, false, true, false, false, true], .move (.s [true, true, false]), none⟩,
  ⟨some [true, true], .move (.s [false, false, true, false, false, true]), none⟩,
  ⟨some [false, false, false], .move (.s [true, false, true, false, false, true]), none⟩])
def c42 : CFunc := { params := [[], [false], [true]], results := [.slot [true, true], .slot [false, false, false]], shared := false, body := (.seq c42_o0
 (.seq c42_o1
 (.seq c42_o2
 (.seq (.seq c42_o3
 (.block 0 c42_l1))
 (.seq c42_o26
 .ret))))) }
-- numnah/numnahlaw05.tame
-- c43_o0: 0=[] 1=[f] 2=[t]
-- c43_o1: 0=[] 1=[f] 2=[t] 6=[t, t]
-- c43_o2: 1=[f] 2=[t] 6=[t, t] 7=[f, f, f]
-- c43_o3: 1=[f] 2=[t] 6=[t, t] 7=[f, f, f] 8=[t, f, f]
-- c43_o4: 1=[f] 2=[t] 6=[t, t] 7=[f, f, f] 8=[t, f, f] 9=[f, t, f]
-- c43_o5: 1=[f] 2=[t] 6=[t, t] 7=[f, f, f] 8=[t, f, f] 9=[f, t, f]
-- c43_o6: 1=[f] 2=[t] 6=[t, t] 7=[f, f, f] 8=[t, f, f] 9=[f, t, f] 10=[t, t, f] 11=[f, f, t]
-- c43_o7: 1=[f] 2=[t] 6=[t, t] 7=[f, f, f] 8=[t, f, f] 9=[f, t, f] 11=[f, f, t]
-- c43_o8: 1=[f] 2=[t] 6=[t, t] 7=[f, f, f] 8=[t, f, f] 9=[f, t, f] 10=[t, t, f] 11=[f, f, t]
-- c43_o9: 1=[f] 2=[t] 6=[t, t] 7=[f, f, f] 8=[t, f, f] 9=[f, t, f] 10=[t, t, f]
-- c43_o10: 1=[f] 2=[t] 6=[t, t] 7=[f, f, f] 8=[t, f, f] 9=[f, t, f] 10=[t, t, f] 11=[f, f, t]
-- c43_o11: 1=[f] 2=[t] 6=[t, t] 7=[f, f, f] 8=[t, f, f] 9=[f, t, f] 10=[t, t, f]
-- c43_o12: 1=[f] 2=[t] 6=[t, t] 7=[f, f, f] 8=[t, f, f] 9=[f, t, f] 10=[t, t, f] 11=[f, f, t]
-- c43_o13: 1=[f] 2=[t] 6=[t, t] 7=[f, f, f] 8=[t, f, f] 9=[f, t, f] 10=[t, t, f] 11=[f, f, t]
-- c43_o14: 1=[f] 2=[t] 6=[t, t] 7=[f, f, f] 8=[t, f, f] 9=[f, t, f]
-- c43_l0: live slots [1, 2, 6, 7, 8, 9]
-- c43_o15: 6=[t, t] 8=[t, f, f]
def c43_o0 : CCode := .trim [[], [false], [true]] (.ops [
  ⟨some [true, true], .alloc none [.nils, .nils], none⟩])
def c43_o1 : CCode := .trim [[], [false], [true], [true, true]] (.ops [
  ⟨some [true, false, true], .move (.s [false]), none⟩,
  ⟨some [false, true, true], .len 1 (.s [true, false, true]), none⟩,
  ⟨some [true, true, true], .move (.s []), none⟩,
  ⟨some [false, false, false, false], .minmax false (.s [false, true, true]) (.s [true, true, true]), none⟩,
  ⟨some [true, false, false, false], .minmax true (.c (.int .i64 1)) (.s [false, false, false, false]), none⟩,
  ⟨some [false, false, false], .move (.s [true, false, false, false]), none⟩])
def c43_o2 : CCode := .trim [[false], [true], [true, true], [false, false, false]] (.ops [
  ⟨some [true, false, false], .alloc none [.nils, .nils], none⟩])
def c43_o3 : CCode := .trim [[false], [true], [true, true], [false, false, false], [true, false, false]] (.ops [
  ⟨some [false, true, false], .move (.c (.int .i64 0)), none⟩])
def c43_o4 : CCode := .trim [[false], [true], [true, true], [false, false, false], [true, false, false], [false, true, false]] (.ops [
  ⟨some [false, true, false, false], .move (.s [false, true, false]), none⟩,
  ⟨some [true, true, false, false], .move (.s [false, false, false]), none⟩,
  ⟨some [false, false, true, false], .bin .lss (.s [false, true, false, false]) (.s [true, true, false, false]), none⟩])
def c43_o5 : CCode := .trim [[false], [true], [true, true], [false, false, false], [true, false, false], [false, true, false]] (.ops [
  ⟨some [true, true, false], .move (.c (.int .i64 (-1))), none⟩,
  ⟨some [false, false, true], .move (.c (.int .i64 1)), none⟩])
def c43_o6 : CCode := .trim [[false], [true], [true, true], [false, false, false], [true, false, false], [false, true, false], [true, true, false], [false, false, true]] (.ops [
  ⟨some [true, true, true, false], .move (.s [false, true, false]), none⟩,
  ⟨some [false, false, false, true], .move (.s [false]), none⟩,
  ⟨some [true, false, false, true], .len 1 (.s [false, false, false, true]), none⟩,
  ⟨some [false, true, false, true], .bin .lss (.s [true, true, true, false]) (.s [true, false, false, true]), none⟩])
def c43_o7 : CCode := .trim [[false], [true], [true, true], [false, false, false], [true, false, false], [false, true, false], [false, false, true]] (.ops [
  ⟨some [true, true, false, true], .move (.s [false]), none⟩,
  ⟨some [false, false, true, true], .move (.s [false, true, false]), none⟩,
  ⟨some [true, false, true, true], .idxSl 1 (.s [true, true, false, true]) (.s [false, false, true, true]), none⟩,
  ⟨some [false, true, true, true], .load none (.s [true, false, true, true]), none⟩,
  ⟨some [true, true, true, true], .move (.s [false, false, false]), none⟩,
  ⟨some [false, false, false, false, false], .bin .add (.s [true, true, true, true]) (.c (.int .i64 2)), none⟩,
  ⟨some [true, false, false, false, false], .call false (.c (.func 24 [])) [(.s [false, true, true, true]), (.s [false, false, false, false, false])], none⟩,
  ⟨some [false, true, false, false, false], .bin .sub (.s [true, false, false, false, false]) (.c (.int .i64 1)), none⟩,
  ⟨some [true, true, false], .move (.s [false, true, false, false, false]), none⟩])
def c43_o8 : CCode := .trim [[false], [true], [true, true], [false, false, false], [true, false, false], [false, true, false], [true, true, false], [false, false, true]] (.ops [
  ⟨some [true, true, false, false, false], .move (.s [false, true, false]), none⟩,
  ⟨some [false, false, true, false, false], .move (.s [true]), none⟩,
  ⟨some [true, false, true, false, false], .len 1 (.s [false, false, true, false, false]), none⟩,
  ⟨some [false, true, true, false, false], .bin .lss (.s [true, true, false, false, false]) (.s [true, false, true, false, false]), none⟩])
def c43_o9 : CCode := .trim [[false], [true], [true, true], [false, false, false], [true, false, false], [false, true, false], [true, true, false]] (.ops [
  ⟨some [true, true, true, false, false], .move (.s [true]), none⟩,
  ⟨some [false, false, false, true, false], .move (.s [false, true, false]), none⟩,
  ⟨some [true, false, false, true, false], .idxSl 1 (.s [true, true, true, false, false]) (.s [false, false, false, true, false]), none⟩,
  ⟨some [false, true, false, true, false], .load none (.s [true, false, false, true, false]), none⟩,
  ⟨some [true, true, false, true, false], .move (.s [false, false, false]), none⟩,
  ⟨some [false, false, true, true, false], .bin .add (.s [true, true, false, true, false]) (.c (.int .i64 2)), none⟩,
  ⟨some [true, false, true, true, false], .call false (.c (.func 24 [])) [(.s [false, true, false, true, false]), (.s [false, false, true, true, false])], none⟩,
  ⟨some [false, true, true, true, false], .bin .add (.c (.int .i64 1)) (.s [true, false, true, true, false]), none⟩,
  ⟨some [false, false, true], .move (.s [false, true, true, true, false]), none⟩])
def c43_o10 : CCode := .trim [[false], [true], [true, true], [false, false, false], [true, false, false], [false, true, false], [true, true, false], [false, false, true]] (.ops [
  ⟨some [true, true, true, true, false], .move (.s [false, true, false]), none⟩,
  ⟨some [false, false, false, false, true], .move (.s [false, false, false]), none⟩,
  ⟨some [true, false, false, false, true], .bin .sub (.s [false, false, false, false, true]) (.c (.int .i64 1)), none⟩,
  ⟨some [false, true, false, false, true], .bin .eql (.s [true, true, true, true, false]) (.s [true, false, false, false, true]), none⟩])
def c43_o11 : CCode := .trim [[false], [true], [true, true], [false, false, false], [true, false, false], [false, true, false], [true, true, false]] (.ops [
  ⟨some [false, false, true], .move (.c (.int .i64 1)), none⟩])
def c43_o12 : CCode := .trim [[false], [true], [true, true], [false, false, false], [true, false, false], [false, true, false], [true, true, false], [false, false, true]] (.ops [
  ⟨some [true, true, false, false, true], .fieldAddr 0 (.s [true, false, false]), none⟩,
  ⟨some [false, false, true, false, true], .load none (.s [true, true, false, false, true]), none⟩,
  ⟨some [true, false, true, false, true], .move (.s [true, true, false]), none⟩,
  ⟨some [false, true, true, false, true], .buildSlice none 1 1 [.int .i64 0] [(0, 1, (.s [true, false, true, false, true]))], none⟩,
  ⟨some [true, true, true, false, true], .append none 1 8 (.s [false, false, true, false, true]) (.s [false, true, true, false, true]), none⟩,
  ⟨some [false, false, false, true, true], .fieldAddr 0 (.s [true, false, false]), none⟩,
  ⟨none, .store 1 (.s [false, false, false, true, true]) (.s [true, true, true, false, true]), none⟩])
def c43_o13 : CCode := .trim [[false], [true], [true, true], [false, false, false], [true, false, false], [false, true, false], [true, true, false], [false, false, true]] (.ops [
  ⟨some [true, false, false, true, true], .fieldAddr 1 (.s [true, false, false]), none⟩,
  ⟨some [false, true, false, true, true], .load none (.s [true, false, false, true, true]), none⟩,
  ⟨some [true, true, false, true, true], .move (.s [false, false, false]), none⟩,
  ⟨some [false, false, true, true, true], .bin .add (.s [true, true, false, true, true]) (.c (.int .i64 1)), none⟩,
  ⟨some [true, false, true, true, true], .move (.s [true, true, false]), none⟩,
  ⟨some [false, true, true, true, true], .move (.s [false, false, true]), none⟩,
  ⟨some [true, true, true, true, true], .bin .add (.s [true, false, true, true, true]) (.s [false, true, true, true, true]), none⟩,
  ⟨some [false, false, false, false, false, false], .minmax false (.s [false, false, true, true, true]) (.s [true, true, true, true, true]), none⟩,
  ⟨some [true, false, false, false, false, false], .buildSlice none 1 1 [.int .i64 0] [(0, 1, (.s [false, false, false, false, false, false]))], none⟩,
  ⟨some [false, true, false, false, false, false], .append none 1 8 (.s [false, true, false, true, true]) (.s [true, false, false, false, false, false]), none⟩,
  ⟨some [true, true, false, false, false, false], .fieldAddr 1 (.s [true, false, false]), none⟩,
  ⟨none, .store 1 (.s [true, true, false, false, false, false]) (.s [false, true, false, false, false, false]), none⟩])
def c43_o14 : CCode := .trim [[false], [true], [true, true], [false, false, false], [true, false, false], [false, true, false]] (.ops [
  ⟨some [true, false, true, false], .move (.s [false, true, false]), none⟩,
  ⟨some [false, true, true, false], .bin .add (.s [true, false, true, false]) (.c (.int .i64 1)), none⟩,
  ⟨some [false, true, false], .move (.s [false, true, true, false]), none⟩])
def c43_b0 : CCode := (.seq (.seq c43_o4
 (.cond (.s [false, false, true, false]) .skip (.exit 0)))
 (.seq (.block 1 (.seq c43_o5
 (.seq (.seq c43_o6
 (.cond (.s [false, true, false, true]) c43_o7 .skip))
 (.seq (.seq c43_o8
 (.cond (.s [false, true, true, false, false]) c43_o9 .skip))
 (.seq (.seq c43_o10
 (.cond (.s [false, true, false, false, true]) c43_o11 .skip))
 (.seq c43_o12
 c43_o13))))))
 c43_o14))
def c43_l0 : CCode := .loop [[false], [true], [true, true], [false, false, false], [true, false, false], [false, true, false]] c43_b0
def c43_o15 : CCode := .trim [[true, true], [true, false, false]] (.ops [
  ⟨some [false, false, true, false, false, false], .load (some 2) (.s [true, false, false]), none⟩,
  ⟨none, .store 2 (.s [true, true]) (.s [false, false, true, false, false, false]), none⟩])
def c43 : CFunc := { params := [[], [false], [true]], results := [.cell [true, true] (some 2)], shared := false, body := (.seq c43_o0
 (.seq c43_o1
 (.seq c43_o2
 (.seq (.seq c43_o3
 (.block 0 c43_l0))
 (.seq c43_o15
 .ret))))) }
-- numnah/numnahref05.Curtail
-- c44_o0: 0=[] 1=[f]
-- c44_o1: 0=[] 1=[f] 4=[t, f]
-- c44_o2: 0=[] 1=[f] 4=[t, f] 5=[f, t]
-- c44_o3: 0=[] 1=[f] 4=[t, f] 5=[f, t] 6=[t, t]
-- c44_o4: 0=[] 1=[f] 4=[t, f] 5=[f, t] 6=[t, t]
-- c44_o5: 0=[] 1=[f] 4=[t, f] 5=[f, t] 6=[t, t]
-- c44_o6: 0=[] 1=[f] 4=[t, f] 5=[f, t] 6=[t, t]
-- c44_l0: live slots [0, 1, 4, 5, 6]
-- c44_o7: 4=[t, f] 5=[f, t]
def c44_o0 : CCode := .trim [[], [false]] (.ops [
  ⟨some [true, false], .alloc none [.nils, .nils], none⟩])
def c44_o1 : CCode := .trim [[], [false], [true, false]] (.ops [
  ⟨some [false, true], .alloc none [.nils, .nils], none⟩])
def c44_o2 : CCode := .trim [[], [false], [true, false], [false, true]] (.ops [
  ⟨some [true, true], .move (.c (.int .i64 1)), none⟩])
def c44_o3 : CCode := .trim [[], [false], [true, false], [false, true], [true, true]] (.ops [
  ⟨some [false, false, false], .move (.s [true, true]), none⟩,
  ⟨some [true, false, false], .move (.s []), none⟩,
  ⟨some [false, true, false], .bin .leq (.s [false, false, false]) (.s [true, false, false]), none⟩])
def c44_o4 : CCode := .trim [[], [false], [true, false], [false, true], [true, true]] (.ops [
  ⟨some [true, false, true], .fieldAddr 0 (.s [false, true]), none⟩,
  ⟨some [false, true, true], .load none (.s [true, false, true]), none⟩,
  ⟨some [true, true, true], .move (.s [false]), none⟩,
  ⟨some [false, false, false, false], .move (.s []), none⟩,
  ⟨some [true, false, false, false], .move (.s [true, true]), none⟩,
  ⟨some [false, true, false, false], .bin .sub (.s [false, false, false, false]) (.s [true, false, false, false]), none⟩,
  ⟨some [true, true, false, false], .bin .sub (.s [true, true, true]) (.s [false, true, false, false]), none⟩,
  ⟨some [false, false, true, false], .minmax true (.c (.int .i64 (-1))) (.s [true, true, false, false]), none⟩,
  ⟨some [true, false, true, false], .buildSlice none 1 1 [.int .i64 0] [(0, 1, (.s [false, false, true, false]))], none⟩,
  ⟨some [false, true, true, false], .append none 1 8 (.s [false, true, true]) (.s [true, false, true, false]), none⟩,
  ⟨some [true, true, true, false], .fieldAddr 0 (.s [false, true]), none⟩,
  ⟨none, .store 1 (.s [true, true, true, false]) (.s [false, true, true, false]), none⟩])
def c44_o5 : CCode := .trim [[], [false], [true, false], [false, true], [true, true]] (.ops [
  ⟨some [false, false, false, true], .fieldAddr 1 (.s [false, true]), none⟩,
  ⟨some [true, false, false, true], .load none (.s [false, false, false, true]), none⟩,
  ⟨some [false, true, false, true], .move (.s [false]), none⟩,
  ⟨some [true, true, false, true], .bin .add (.s [false, true, false, true]) (.c (.int .i64 1)), none⟩,
  ⟨some [false, false, true, true], .buildSlice none 1 1 [.int .i64 0] [(0, 1, (.s [true, true, false, true]))], none⟩,
  ⟨some [true, false, true, true], .append none 1 8 (.s [true, false, false, true]) (.s [false, false, true, true]), none⟩,
  ⟨some [false, true, true, true], .fieldAddr 1 (.s [false, true]), none⟩,
  ⟨none, .store 1 (.s [false, true, true, true]) (.s [true, false, true, true]), none⟩])
def c44_o6 : CCode := .trim [[], [false], [true, false], [false, true], [true, true]] (.ops [
  ⟨some [true, true, false], .move (.s [true, true]), none⟩,
  ⟨some [false, false, true], .bin .add (.s [true, true, false]) (.c (.int .i64 1)), none⟩,
  ⟨some [true, true], .move (.s [false, false, true]), none⟩])
def c44_b0 : CCode := (.seq (.seq c44_o3
 (.cond (.s [false, true, false]) .skip (.exit 0)))
 (.seq (.block 1 (.seq c44_o4
 c44_o5))
 c44_o6))
def c44_l0 : CCode := .loop [[], [false], [true, false], [false, true], [true, true]] c44_b0
def c44_o7 : CCode := .trim [[true, false], [false, true]] (.ops [
  ⟨some [true, true, true, true], .load (some 2) (.s [false, true]), none⟩,
  ⟨none, .store 2 (.s [true, false]) (.s [true, true, true, true]), none⟩])
def c44 : CFunc := { params := [[], [false]], results := [.cell [true, false] (some 2)], shared := false, body := (.seq c44_o0
 (.seq c44_o1
 (.seq (.seq c44_o2
 (.block 0 c44_l0))
 (.seq c44_o7
 .ret)))) }
-- numnah/numnahlaw05.ints
-- c45_o0: 0=[] 1=[f]
-- c45_o1: 0=[] 1=[f]
-- c45_o2: 
-- c45_o3: 0=[] 1=[f]
-- c45_o4: 0=[] 1=[f] 5=[f, t]
-- c45_o5: 0=[] 1=[f] 5=[f, t]
-- c45_o6: 
-- c45_o7: 0=[] 1=[f] 5=[f, t]
-- c45_l0: live slots [0, 1, 5]
-- c45_o8: 
def c45_o0 : CCode := .trim [[], [false]] (.ops [
  ⟨some [true, false], .move (.c (.bool false)), none⟩])
def c45_o1 : CCode := .trim [[], [false]] (.ops [
  ⟨some [true, true], .move (.s []), none⟩,
  ⟨some [false, false, false], .len 1 (.s [true, true]), none⟩,
  ⟨some [true, false, false], .move (.s [false]), none⟩,
  ⟨some [false, true, false], .len 1 (.s [true, false, false]), none⟩,
  ⟨some [true, true, false], .bin .neq (.s [false, false, false]) (.s [false, true, false]), none⟩])
def c45_o2 : CCode := .trim [] (.ops [
  ⟨some [true, false], .move (.c (.bool false)), none⟩])
def c45_o3 : CCode := .trim [[], [false]] (.ops [
  ⟨some [false, true], .move (.c (.int .i64 0)), none⟩])
def c45_o4 : CCode := .trim [[], [false], [false, true]] (.ops [
  ⟨some [false, false, true], .move (.s [false, true]), none⟩,
  ⟨some [true, false, true], .move (.s []), none⟩,
  ⟨some [false, true, true], .len 1 (.s [true, false, true]), none⟩,
  ⟨some [true, true, true], .bin .lss (.s [false, false, true]) (.s [false, true, true]), none⟩])
def c45_o5 : CCode := .trim [[], [false], [false, true]] (.draw 0 [
  ⟨some [false, true, false, false], .move (.s []), none⟩,
  ⟨some [true, true, false, false], .move (.s [false, true]), none⟩,
  ⟨some [false, false, true, false], .idxSl 1 (.s [false, true, false, false]) (.s [true, true, false, false]), none⟩,
  ⟨some [true, false, true, false], .load none (.s [false, false, true, false]), none⟩,
  ⟨some [false, true, true, false], .move (.s [false]), none⟩,
  ⟨some [true, true, true, false], .move (.s [false, true]), none⟩,
  ⟨some [false, false, false, true], .idxSl 1 (.s [false, true, true, false]) (.s [true, true, true, false]), none⟩,
  ⟨some [true, false, false, true], .load none (.s [false, false, false, true]), none⟩,
  ⟨some [false, true, false, true], .bin .neq (.s [true, false, true, false]) (.s [true, false, false, true]), none⟩]
  [(3, 7)] [[], [], [0, 1], [0, 1, 2], [], [], [4, 5], [4, 5, 6], [0, 1, 2, 3, 4, 5, 6, 7]])
def c45_o6 : CCode := .trim [] (.ops [
  ⟨some [true, false], .move (.c (.bool false)), none⟩])
def c45_o7 : CCode := .trim [[], [false], [false, true]] (.ops [
  ⟨some [false, false, false, false], .move (.s [false, true]), none⟩,
  ⟨some [true, false, false, false], .bin .add (.s [false, false, false, false]) (.c (.int .i64 1)), none⟩,
  ⟨some [false, true], .move (.s [true, false, false, false]), none⟩])
def c45_b0 : CCode := (.seq (.seq c45_o4
 (.cond (.s [true, true, true]) .skip (.exit 0)))
 (.seq (.block 1 (.seq c45_o5
 (.cond (.s [false, true, false, true]) (.seq c45_o6
 .ret) .skip)))
 c45_o7))
def c45_l0 : CCode := .loop [[], [false], [false, true]] c45_b0
def c45_o8 : CCode := .trim [] (.ops [
  ⟨some [true, false], .move (.c (.bool true)), none⟩])
def c45 : CFunc := { params := [[], [false]], results := [.slot [true, false]], shared := false, body := (.seq c45_o0
 (.seq (.seq c45_o1
 (.cond (.s [true, true, false]) (.seq c45_o2
 .ret) .skip))
 (.seq (.seq c45_o3
 (.block 0 c45_l0))
 (.seq c45_o8
 .ret)))) }
-- numnah/sample.Double
-- c46_o0: 0=[] 1=[f] 2=[t]
-- c46_o1: 0=[] 1=[f] 5=[f, t] 6=[t, t] 7=[f, f, f]
-- c46_o2: 6=[t, t] 7=[f, f, f]
-- c46_o3: 0=[] 1=[f] 5=[f, t] 6=[t, t] 7=[f, f, f]
-- c46_o4: 0=[] 1=[f] 5=[f, t] 6=[t, t] 7=[f, f, f] 9=[f, t, f]
-- c46_o5: 0=[] 1=[f] 6=[t, t] 7=[f, f, f] 9=[f, t, f] 10=[t, t, f] 11=[f, f, t] 12=[t, f, t] 13=[f, t, t] 14=[t, t, t]
-- c46_o6: 0=[] 1=[f] 6=[t, t] 7=[f, f, f] 9=[f, t, f] 10=[t, t, f] 11=[f, f, t] 12=[t, f, t] 13=[f, t, t] 14=[t, t, t] 15=[f, f, f, f] 16=[t, f, f, f]
-- c46_o7: 0=[] 1=[f] 6=[t, t] 7=[f, f, f] 9=[f, t, f] 10=[t, t, f] 12=[t, f, t] 13=[f, t, t] 14=[t, t, t] 15=[f, f, f, f] 16=[t, f, f, f] 17=[f, t, f, f]
-- c46_o8: 0=[] 1=[f] 6=[t, t] 7=[f, f, f] 9=[f, t, f] 10=[t, t, f] 12=[t, f, t] 13=[f, t, t] 14=[t, t, t] 15=[f, f, f, f] 16=[t, f, f, f] 17=[f, t, f, f]
-- c46_o9: 0=[] 1=[f] 6=[t, t] 7=[f, f, f] 9=[f, t, f] 10=[t, t, f] 12=[t, f, t] 13=[f, t, t] 14=[t, t, t] 15=[f, f, f, f] 16=[t, f, f, f] 17=[f, t, f, f]
-- c46_o10: 0=[] 1=[f] 6=[t, t] 7=[f, f, f] 9=[f, t, f] 10=[t, t, f] 12=[t, f, t] 13=[f, t, t] 14=[t, t, t] 15=[f, f, f, f] 16=[t, f, f, f] 17=[f, t, f, f] 74=[t, t, f, t, f, f] 75=[f, f, t, t, f, f]
-- c46_o11: 0=[] 1=[f] 6=[t, t] 7=[f, f, f] 9=[f, t, f] 10=[t, t, f] 12=[t, f, t] 13=[f, t, t] 14=[t, t, t] 15=[f, f, f, f] 16=[t, f, f, f] 17=[f, t, f, f] 74=[t, t, f, t, f, f] 75=[f, f, t, t, f, f]
-- c46_o12: 0=[] 1=[f] 6=[t, t] 7=[f, f, f] 9=[f, t, f] 10=[t, t, f] 12=[t, f, t] 13=[f, t, t] 14=[t, t, t] 15=[f, f, f, f] 16=[t, f, f, f] 17=[f, t, f, f] 18=[t, t, f, f] 74=[t, t, f, t, f, f] 75=[f, f, t, t, f, f]
-- c46_o13: 0=[] 1=[f] 6=[t, t] 7=[f, f, f] 9=[f, t, f] 10=[t, t, f] 12=[t, f, t] 13=[f, t, t] 14=[t, t, t] 15=[f, f, f, f] 16=[t, f, f, f] 17=[f, t, f, f] 74=[t, t, f, t, f, f] 75=[f, f, t, t, f, f]
-- c46_l0: live slots [0, 1, 6, 7, 9, 10, 12, 13, 14, 15, 16, 17, 74, 75]
-- c46_o14: 0=[] 1=[f] 6=[t, t] 7=[f, f, f] 9=[f, t, f] 10=[t, t, f] 12=[t, f, t] 13=[f, t, t] 14=[t, t, t] 15=[f, f, f, f] 16=[t, f, f, f] 17=[f, t, f, f]
-- c46_l1: live slots [0, 1, 6, 7, 9, 10, 12, 13, 14, 15, 16, 17]
-- c46_o15: 0=[] 1=[f] 6=[t, t] 7=[f, f, f] 9=[f, t, f] 10=[t, t, f] 13=[f, t, t] 15=[f, f, f, f] 16=[t, f, f, f]
-- c46_o16: 6=[t, t] 7=[f, f, f] 10=[t, t, f] 13=[f, t, t] 15=[f, f, f, f] 16=[t, f, f, f] 19=[f, f, t, f]
def c46_o0 : CCode := .trim [[], [false], [true]] (.ops [
  ⟨some [false, true], .box none (.s [true]), none⟩,
  ⟨some [true, true], .alloc none [.int .i64 0, .int .i64 0], none⟩,
  ⟨some [false, false, false], .alloc none [.int .i64 0, .int .i64 0], none⟩,
  ⟨some [true, false, false], .move (.c (.int .i64 0)), none⟩])
def c46_o1 : CCode := .trim [[], [false], [false, true], [true, true], [false, false, false]] (.ops [
  ⟨some [true, false, true, false], .move (.s []), none⟩,
  ⟨some [false, true, true, false], .move (.s [false]), none⟩,
  ⟨some [true, true, true, false], .call false (.c (.func 52 [])) [(.s [true, false, true, false]), (.s [false, true, true, false])], none⟩,
  ⟨some [false, false, false, true], .un .not (.s [true, true, true, false]), none⟩,
  ⟨some [true, false, false, true], .move (.s [false, false, false, true]), none⟩,
  ⟨some [false, true, false, true], .move (.s []), some ([true, false, false, true], false)⟩,
  ⟨some [true, true, false, true], .load (some 5) (.s [false, true]), some ([true, false, false, true], false)⟩,
  ⟨some [false, false, true, true], .call false (.c (.func 66 [])) [(.s [false, true, false, true]), (.s [true, true, false, true])], some ([true, false, false, true], false)⟩,
  ⟨some [true, false, true, true], .un .not (.s [false, false, true, true]), some ([true, false, false, true], false)⟩,
  ⟨some [false, true, true, true], .pick (.s [true, false, false, true]) (.c (.bool true)) (.s [true, false, true, true]), none⟩])
def c46_o2 : CCode := .trim [[true, true], [false, false, false]] (.ops [
  ⟨some [true, true, true, true], .build [.int .i64 0, .int .i64 0] [], none⟩,
  ⟨some [false, false, false, false, false], .build [.int .i64 0, .int .i64 0] [], none⟩,
  ⟨none, .store 2 (.s [true, true]) (.s [true, true, true, true]), none⟩,
  ⟨none, .store 2 (.s [false, false, false]) (.s [false, false, false, false, false]), none⟩,
  ⟨some [true, false, false], .move (.c (.int .i64 2)), none⟩])
def c46_o3 : CCode := .trim [[], [false], [false, true], [true, true], [false, false, false]] (.ops [
  ⟨some [true, false, false, false, false], .call false (.c (.func 54 [])) [], none⟩,
  ⟨some [false, true, false], .move (.s [true, false, false, false, false]), none⟩])
def c46_o4 : CCode := .trim [[], [false], [false, true], [true, true], [false, false, false], [false, true, false]] (.draw 0 [
  ⟨some [false, true, false, false, false], .idxArr 5 1 (.s [false, true]) (.c (.int .i64 0)), none⟩,
  ⟨some [true, true, false, false, false], .load none (.s [false, true, false, false, false]), none⟩,
  ⟨some [false, false, true, false, false], .idxArr 5 1 (.s [false, true]) (.c (.int .i64 1)), none⟩,
  ⟨some [true, false, true, false, false], .load none (.s [false, false, true, false, false]), none⟩,
  ⟨some [false, true, true, false, false], .idxArr 5 1 (.s [false, true]) (.c (.int .i64 2)), none⟩,
  ⟨some [true, true, true, false, false], .load none (.s [false, true, true, false, false]), none⟩,
  ⟨some [false, false, false, true, false], .idxArr 5 1 (.s [false, true]) (.c (.int .i64 3)), none⟩,
  ⟨some [true, false, false, true, false], .load none (.s [false, false, false, true, false]), none⟩,
  ⟨some [false, true, false, true, false], .idxArr 5 1 (.s [false, true]) (.c (.int .i64 4)), none⟩,
  ⟨some [true, true, false, true, false], .load none (.s [false, true, false, true, false]), none⟩,
  ⟨some [true, true, false], .move (.s [true, true, false, false, false]), none⟩,
  ⟨some [false, false, true], .move (.s [true, false, true, false, false]), none⟩,
  ⟨some [true, false, true], .move (.s [true, true, true, false, false]), none⟩,
  ⟨some [false, true, true], .move (.s [true, false, false, true, false]), none⟩,
  ⟨some [true, true, true], .move (.s [true, true, false, true, false]), none⟩]
  [(1, 3), (1, 5), (3, 5), (1, 7), (3, 7), (5, 7), (1, 9), (3, 9), (5, 9), (7, 9)] [[], [0], [], [2], [], [4], [], [6], [], [8], [0, 1], [0, 1, 2, 3, 10], [0, 1, 2, 3, 4, 5, 10, 11], [0, 1, 2, 3, 4, 5, 6, 7, 10, 11, 12], [0, 1, 2, 3, 4, 5, 6, 7, 8, 9, 10, 11, 12, 13]])
def c46_o5 : CCode := .trim [[], [false], [true, true], [false, false, false], [false, true, false], [true, true, false], [false, false, true], [true, false, true], [false, true, true], [true, true, true]] (.ops [
  ⟨some [false, false, true, true, false], .move (.s [false, true, false]), none⟩,
  ⟨some [true, false, true, true, false], .move (.s []), none⟩,
  ⟨some [false, true, true, true, false], .move (.s [false]), none⟩,
  ⟨some [true, true, true, true, false], .move (.s [true, true, false]), none⟩,
  ⟨some [false, false, false, false, true], .move (.s [false, false, true]), none⟩,
  ⟨some [true, false, false, false, true], .call false (.c (.func 57 [])) [(.s [false, false, true, true, false]), (.s [true, false, true, true, false]), (.s [false, true, true, true, false]), (.s [true, true, true, true, false]), (.s [false, false, false, false, true])], none⟩,
  ⟨some [false, false, false, false], .move (.s [true, false, false, false, true]), none⟩,
  ⟨some [true, false, false, false], .move (.c (.int .i64 0)), none⟩])
def c46_o6 : CCode := .trim [[], [false], [true, true], [false, false, false], [false, true, false], [true, true, false], [false, false, true], [true, false, true], [false, true, true], [true, true, true], [false, false, false, false], [true, false, false, false]] (.ops [
  ⟨some [false, true, false, false, true], .move (.s [false, false, true]), none⟩,
  ⟨some [true, true, false, false, true], .bin .add (.s [false, true, false, false, true]) (.c (.int .i64 1)), none⟩,
  ⟨some [false, true, false, false], .move (.s [true, true, false, false, true]), none⟩])
def c46_o7 : CCode := .trim [[], [false], [true, true], [false, false, false], [false, true, false], [true, true, false], [true, false, true], [false, true, true], [true, true, true], [false, false, false, false], [true, false, false, false], [false, true, false, false]] (.ops [
  ⟨some [false, false, true, false, true], .move (.s [false, true, false, false]), none⟩,
  ⟨some [true, false, true, false, true], .move (.s [true, false, true]), none⟩,
  ⟨some [false, true, true, false, true], .bin .lss (.s [false, false, true, false, true]) (.s [true, false, true, false, true]), none⟩])
def c46_o8 : CCode := .trim [[], [false], [true, true], [false, false, false], [false, true, false], [true, true, false], [true, false, true], [false, true, true], [true, true, true], [false, false, false, false], [true, false, false, false], [false, true, false, false]] (.ops [
  ⟨some [true, false, false, true, true], .move (.s [true, false, false, false]), none⟩,
  ⟨some [false, true, false, true, true], .move (.s [false, true, false]), none⟩,
  ⟨some [true, true, false, true, true], .move (.s [true, true, false]), none⟩,
  ⟨some [false, false, true, true, true], .move (.s [false, true, false, false]), none⟩,
  ⟨some [true, false, true, true, true], .call false (.c (.func 58 [])) [(.s [false, true, false, true, true]), (.s [true, true, false, true, true]), (.s [false, false, true, true, true])], none⟩,
  ⟨some [false, true, true, true, true], .move (.s [false, true, false]), none⟩,
  ⟨some [true, true, true, true, true], .move (.s []), none⟩,
  ⟨some [false, false, false, false, false, false], .move (.s [true, true, false]), none⟩,
  ⟨some [true, false, false, false, false, false], .bin .sub (.s [true, true, true, true, true]) (.s [false, false, false, false, false, false]), none⟩,
  ⟨some [false, true, false, false, false, false], .move (.s [false]), none⟩,
  ⟨some [true, true, false, false, false, false], .move (.s [false, true, false, false]), none⟩,
  ⟨some [false, false, true, false, false, false], .bin .sub (.s [false, true, false, false, false, false]) (.s [true, true, false, false, false, false]), none⟩,
  ⟨some [true, false, true, false, false, false], .call false (.c (.func 58 [])) [(.s [false, true, true, true, true]), (.s [true, false, false, false, false, false]), (.s [false, false, true, false, false, false])], none⟩,
  ⟨some [false, true, true, false, false, false], .bin .mul (.s [true, false, true, true, true]) (.s [true, false, true, false, false, false]), none⟩,
  ⟨some [true, true, true, false, false, false], .bin .add (.s [true, false, false, true, true]) (.s [false, true, true, false, false, false]), none⟩,
  ⟨some [true, false, false, false], .move (.s [true, true, true, false, false, false]), none⟩])
def c46_o9 : CCode := .trim [[], [false], [true, true], [false, false, false], [false, true, false], [true, true, false], [true, false, true], [false, true, true], [true, true, true], [false, false, false, false], [true, false, false, false], [false, true, false, false]] (.ops [
  ⟨some [false, false, false, true, false, false], .move (.s [true, true, true]), none⟩,
  ⟨some [true, false, false, true, false, false], .move (.s [false, true, false, false]), none⟩,
  ⟨some [false, true, false, true, false, false], .bin .sub (.s [false, false, false, true, false, false]) (.s [true, false, false, true, false, false]), none⟩,
  ⟨some [true, true, false, true, false, false], .bin .add (.s [false, true, false, true, false, false]) (.c (.int .i64 1)), none⟩,
  ⟨some [false, false, true, true, false, false], .move (.c (.int .i64 0)), none⟩])
def c46_o10 : CCode := .trim [[], [false], [true, true], [false, false, false], [false, true, false], [true, true, false], [true, false, true], [false, true, true], [true, true, true], [false, false, false, false], [true, false, false, false], [false, true, false, false], [true, true, false, true, false, false], [false, false, true, true, false, false]] (.ops [
  ⟨some [true, false, true, true, false, false], .bin .lss (.s [false, false, true, true, false, false]) (.s [true, true, false, true, false, false]), none⟩])
def c46_o11 : CCode := .trim [[], [false], [true, true], [false, false, false], [false, true, false], [true, true, false], [true, false, true], [false, true, true], [true, true, true], [false, false, false, false], [true, false, false, false], [false, true, false, false], [true, true, false, true, false, false], [false, false, true, true, false, false]] (.ops [
  ⟨some [false, true, true, true, false, false], .move (.s [false, false, true, true, false, false]), none⟩,
  ⟨some [true, true, false, false], .move (.s [false, true, true, true, false, false]), none⟩])
def c46_o12 : CCode := .trim [[], [false], [true, true], [false, false, false], [false, true, false], [true, true, false], [true, false, true], [false, true, true], [true, true, true], [false, false, false, false], [true, false, false, false], [false, true, false, false], [true, true, false, false], [true, true, false, true, false, false], [false, false, true, true, false, false]] (.ops [
  ⟨some [true, true, true, true, false, false], .move (.s [false, false, false, false]), none⟩,
  ⟨some [false, false, false, false, true, false], .move (.s [false, true, false]), none⟩,
  ⟨some [true, false, false, false, true, false], .move (.s [true, true, false]), none⟩,
  ⟨some [false, true, false, false, true, false], .move (.s [false, true, false, false]), none⟩,
  ⟨some [true, true, false, false, true, false], .call false (.c (.func 58 [])) [(.s [false, false, false, false, true, false]), (.s [true, false, false, false, true, false]), (.s [false, true, false, false, true, false])], none⟩,
  ⟨some [false, false, true, false, true, false], .move (.s [false, true, false]), none⟩,
  ⟨some [true, false, true, false, true, false], .move (.s [false, true, true]), none⟩,
  ⟨some [false, true, true, false, true, false], .move (.s [true, true, false, false]), none⟩,
  ⟨some [true, true, true, false, true, false], .call false (.c (.func 58 [])) [(.s [false, false, true, false, true, false]), (.s [true, false, true, false, true, false]), (.s [false, true, true, false, true, false])], none⟩,
  ⟨some [false, false, false, true, true, false], .bin .mul (.s [true, true, false, false, true, false]) (.s [true, true, true, false, true, false]), none⟩,
  ⟨some [true, false, false, true, true, false], .move (.s [false, true, false]), none⟩,
  ⟨some [false, true, false, true, true, false], .move (.s []), none⟩,
  ⟨some [true, true, false, true, true, false], .move (.s [true, true, false]), none⟩,
  ⟨some [false, false, true, true, true, false], .bin .sub (.s [false, true, false, true, true, false]) (.s [true, true, false, true, true, false]), none⟩,
  ⟨some [true, false, true, true, true, false], .move (.s [false, true, true]), none⟩,
  ⟨some [false, true, true, true, true, false], .bin .sub (.s [false, false, true, true, true, false]) (.s [true, false, true, true, true, false]), none⟩,
  ⟨some [true, true, true, true, true, false], .move (.s [false]), none⟩,
  ⟨some [false, false, false, false, false, true], .move (.s [false, true, false, false]), none⟩,
  ⟨some [true, false, false, false, false, true], .bin .sub (.s [true, true, true, true, true, false]) (.s [false, false, false, false, false, true]), none⟩,
  ⟨some [false, true, false, false, false, true], .move (.s [true, true, false, false]), none⟩,
  ⟨some [true, true, false, false, false, true], .bin .sub (.s [true, false, false, false, false, true]) (.s [false, true, false, false, false, true]), none⟩,
  ⟨some [false, false, true, false, false, true], .call false (.c (.func 58 [])) [(.s [true, false, false, true, true, false]), (.s [false, true, true, true, true, false]), (.s [true, true, false, false, false, true])], none⟩,
  ⟨some [true, false, true, false, false, true], .bin .mul (.s [false, false, false, true, true, false]) (.s [false, false, true, false, false, true]), none⟩,
  ⟨some [false, true, true, false, false, true], .bin .add (.s [true, true, true, true, false, false]) (.s [true, false, true, false, false, true]), none⟩,
  ⟨some [false, false, false, false], .move (.s [false, true, true, false, false, true]), none⟩])
def c46_o13 : CCode := .trim [[], [false], [true, true], [false, false, false], [false, true, false], [true, true, false], [true, false, true], [false, true, true], [true, true, true], [false, false, false, false], [true, false, false, false], [false, true, false, false], [true, true, false, true, false, false], [false, false, true, true, false, false]] (.ops [
  ⟨some [true, true, true, false, false, true], .bin .add (.s [false, false, true, true, false, false]) (.c (.int .i64 1)), none⟩,
  ⟨some [false, false, true, true, false, false], .move (.s [true, true, true, false, false, true]), none⟩])
def c46_b0 : CCode := (.seq c46_o10
 (.seq (.cond (.s [true, false, true, true, false, false]) .skip (.exit 2))
 (.seq (.block 3 (.seq c46_o11
 c46_o12))
 c46_o13)))
def c46_l0 : CCode := .loop [[], [false], [true, true], [false, false, false], [false, true, false], [true, true, false], [true, false, true], [false, true, true], [true, true, true], [false, false, false, false], [true, false, false, false], [false, true, false, false], [true, true, false, true, false, false], [false, false, true, true, false, false]] c46_b0
def c46_o14 : CCode := .trim [[], [false], [true, true], [false, false, false], [false, true, false], [true, true, false], [true, false, true], [false, true, true], [true, true, true], [false, false, false, false], [true, false, false, false], [false, true, false, false]] (.ops [
  ⟨some [true, true, true, false, true], .move (.s [false, true, false, false]), none⟩,
  ⟨some [false, false, false, true, true], .bin .add (.s [true, true, true, false, true]) (.c (.int .i64 1)), none⟩,
  ⟨some [false, true, false, false], .move (.s [false, false, false, true, true]), none⟩])
def c46_b1 : CCode := (.seq (.seq c46_o7
 (.cond (.s [false, true, true, false, true]) .skip (.exit 0)))
 (.seq (.block 1 (.seq c46_o8
 (.seq c46_o9
 (.block 2 c46_l0))))
 c46_o14))
def c46_l1 : CCode := .loop [[], [false], [true, true], [false, false, false], [false, true, false], [true, true, false], [true, false, true], [false, true, true], [true, true, true], [false, false, false, false], [true, false, false, false], [false, true, false, false]] c46_b1
def c46_o15 : CCode := .trim [[], [false], [true, true], [false, false, false], [false, true, false], [true, true, false], [false, true, true], [false, false, false, false], [true, false, false, false]] (.ops [
  ⟨some [false, false, false, true, false, true], .move (.s [false, true, false]), none⟩,
  ⟨some [true, false, false, true, false, true], .move (.s []), none⟩,
  ⟨some [false, true, false, true, false, true], .move (.s [false]), none⟩,
  ⟨some [true, true, false, true, false, true], .call false (.c (.func 58 [])) [(.s [false, false, false, true, false, true]), (.s [true, false, false, true, false, true]), (.s [false, true, false, true, false, true])], none⟩,
  ⟨some [false, false, true, false], .move (.s [true, true, false, true, false, true]), none⟩])
def c46_o16 : CCode := .trim [[true, true], [false, false, false], [true, true, false], [false, true, true], [false, false, false, false], [true, false, false, false], [false, false, true, false]] (.ops [
  ⟨some [false, false, true, true, false, true], .move (.s [false, false, false, false]), none⟩,
  ⟨some [true, false, true, true, false, true], .move (.s [false, false, true, false]), none⟩,
  ⟨some [false, true, true, true, false, true], .call false (.c (.func 56 [])) [(.s [false, false, true, true, false, true]), (.s [true, false, true, true, false, true])], none⟩,
  ⟨some [true, true, true, true, false, true], .move (.s [true, true, false]), none⟩,
  ⟨some [false, false, false, false, true, true], .move (.s [false, false, true, false]), none⟩,
  ⟨some [true, false, false, false, true, true], .bin .mul (.s [true, true, true, true, false, true]) (.s [false, false, false, false, true, true]), none⟩,
  ⟨some [false, true, false, false, true, true], .move (.s [false, true, true]), none⟩,
  ⟨some [true, true, false, false, true, true], .move (.s [true, false, false, false]), none⟩,
  ⟨some [false, false, true, false, true, true], .bin .mul (.s [false, true, false, false, true, true]) (.s [true, true, false, false, true, true]), none⟩,
  ⟨some [true, false, true, false, true, true], .bin .add (.s [true, false, false, false, true, true]) (.s [false, false, true, false, true, true]), none⟩,
  ⟨some [false, true, true, false, true, true], .move (.s [false, false, true, false]), none⟩,
  ⟨some [true, true, true, false, true, true], .call false (.c (.func 56 [])) [(.s [true, false, true, false, true, true]), (.s [false, true, true, false, true, true])], none⟩,
  ⟨none, .store 2 (.s [true, true]) (.s [false, true, true, true, false, true]), none⟩,
  ⟨none, .store 2 (.s [false, false, false]) (.s [true, true, true, false, true, true]), none⟩,
  ⟨some [true, false, false], .move (.c (.int .i64 0)), none⟩])
def c46 : CFunc := { params := [[], [false], [true]], results := [.cell [true, true] (some 2), .cell [false, false, false] (some 2), .slot [true, false, false]], shared := false, body := (.seq c46_o0
 (.seq (.seq c46_o1
 (.cond (.s [false, true, true, true]) (.seq c46_o2
 .ret) .skip))
 (.seq c46_o3
 (.seq c46_o4
 (.seq c46_o5
 (.seq (.seq c46_o6
 (.block 0 c46_l1))
 (.seq c46_o15
 (.seq c46_o16
 .ret)))))))) }
-- numnah/sample.Merge
-- c47_o0: 0=[] 1=[f]
-- c47_o1: 0=[] 3=[f, f] 4=[t, f]
-- c47_o2: 4=[t, f]
-- c47_o3: 3=[f, f] 4=[t, f]
-- c47_o4: 3=[f, f] 4=[t, f] 6=[t, t]
-- c47_o5: 3=[f, f] 4=[t, f] 6=[t, t] 7=[f, f, f]
-- c47_o6: 3=[f, f] 4=[t, f] 6=[t, t] 7=[f, f, f]
-- c47_o7: 4=[t, f] 7=[f, f, f]
def c47_o0 : CCode := .trim [[], [false]] (.ops [
  ⟨some [false, false], .box none (.s [false]), none⟩,
  ⟨some [true, false], .alloc none [.nils, .nils], none⟩,
  ⟨some [false, true], .move (.c (.int .i64 0)), none⟩])
def c47_o1 : CCode := .trim [[], [false, false], [true, false]] (.ops [
  ⟨some [true, false, false], .move (.s []), none⟩,
  ⟨some [false, true, false], .call false (.c (.func 52 [])) [(.s [true, false, false]), (.c (.int .i64 0))], none⟩,
  ⟨some [true, true, false], .un .not (.s [false, true, false]), none⟩,
  ⟨some [false, false, true], .move (.s [true, true, false]), none⟩,
  ⟨some [true, false, true], .move (.s []), some ([false, false, true], false)⟩,
  ⟨some [false, true, true], .load (some 5) (.s [false, false]), some ([false, false, true], false)⟩,
  ⟨some [true, true, true], .call false (.c (.func 66 [])) [(.s [true, false, true]), (.s [false, true, true])], some ([false, false, true], false)⟩,
  ⟨some [false, false, false, false], .un .not (.s [true, true, true]), some ([false, false, true], false)⟩,
  ⟨some [true, false, false, false], .pick (.s [false, false, true]) (.c (.bool true)) (.s [false, false, false, false]), none⟩])
def c47_o2 : CCode := .trim [[true, false]] (.ops [
  ⟨some [false, true, false, false], .build [.nils, .nils] [], none⟩,
  ⟨none, .store 2 (.s [true, false]) (.s [false, true, false, false]), none⟩,
  ⟨some [false, true], .move (.c (.int .i64 2)), none⟩])
def c47_o3 : CCode := .trim [[false, false], [true, false]] (.ops [
  ⟨some [true, true, false, false], .idxArr 5 1 (.s [false, false]) (.c (.int .i64 0)), none⟩,
  ⟨some [false, false, true, false], .load none (.s [true, true, false, false]), none⟩,
  ⟨some [true, false, true, false], .idxArr 5 1 (.s [false, false]) (.c (.int .i64 3)), none⟩,
  ⟨some [false, true, true, false], .load none (.s [true, false, true, false]), none⟩,
  ⟨some [true, true, true, false], .bin .add (.s [false, false, true, false]) (.s [false, true, true, false]), none⟩,
  ⟨some [true, true], .move (.s [true, true, true, false]), none⟩])
def c47_o4 : CCode := .trim [[false, false], [true, false], [true, true]] (.ops [
  ⟨some [false, false, false, true], .buildSlice none 1 1 [.int .i64 0] [(0, 1, (.c (.int .i64 (-1))))], none⟩,
  ⟨some [true, false, false, true], .move (.s [true, true]), none⟩,
  ⟨some [false, true, false, true], .call false (.c (.func 61 [])) [(.s [false, false, false, true]), (.s [true, false, false, true])], none⟩,
  ⟨some [true, true, false, true], .move (.s [true, true]), none⟩,
  ⟨some [false, false, true, true], .bin .add (.s [true, true, false, true]) (.c (.int .i64 1)), none⟩,
  ⟨some [true, false, true, true], .buildSlice none 1 1 [.int .i64 0] [(0, 1, (.s [false, false, true, true]))], none⟩,
  ⟨some [false, true, true, true], .move (.s [true, true]), none⟩,
  ⟨some [true, true, true, true], .call false (.c (.func 61 [])) [(.s [true, false, true, true]), (.s [false, true, true, true])], none⟩,
  ⟨some [false, false, false, false, false], .build [.nils, .nils] [(0, 1, (.s [false, true, false, true])), (1, 1, (.s [true, true, true, true]))], none⟩,
  ⟨some [false, false, false], .alloc none [.nils, .nils], none⟩,
  ⟨none, .store 2 (.s [false, false, false]) (.s [false, false, false, false, false]), none⟩])
def c47_o5 : CCode := .trim [[false, false], [true, false], [true, true], [false, false, false]] (.draw 0 [
  ⟨some [true, false, false, false, false], .fieldAddr 0 (.s [false, false, false]), none⟩,
  ⟨some [false, true, false, false, false], .load none (.s [true, false, false, false, false]), none⟩,
  ⟨some [true, true, false, false, false], .idxArr 5 1 (.s [false, false]) (.c (.int .i64 0)), none⟩,
  ⟨some [false, false, true, false, false], .load none (.s [true, true, false, false, false]), none⟩,
  ⟨some [true, false, true, false, false], .bin .sub (.s [false, false, true, false, false]) (.c (.int .i64 1)), none⟩,
  ⟨some [false, true, true, false, false], .fieldAddr 1 (.s [false, false, false]), none⟩,
  ⟨some [true, true, true, false, false], .load none (.s [false, true, true, false, false]), none⟩,
  ⟨some [false, false, false, true, false], .idxArr 5 1 (.s [false, false]) (.c (.int .i64 0)), none⟩,
  ⟨some [true, false, false, true, false], .load none (.s [false, false, false, true, false]), none⟩,
  ⟨some [false, true, false, true, false], .bin .sub (.s [true, false, false, true, false]) (.c (.int .i64 1)), none⟩,
  ⟨some [true, true, false, true, false], .idxArr 5 1 (.s [false, false]) (.c (.int .i64 1)), none⟩,
  ⟨some [false, false, true, true, false], .load none (.s [true, true, false, true, false]), none⟩,
  ⟨some [true, false, true, true, false], .idxArr 5 1 (.s [false, false]) (.c (.int .i64 2)), none⟩,
  ⟨some [false, true, true, true, false], .load none (.s [true, false, true, true, false]), none⟩,
  ⟨some [true, true, true, true, false], .idxSl 1 (.s [false, true, false, false, false]) (.s [true, false, true, false, false]), none⟩,
  ⟨none, .store 1 (.s [true, true, true, true, false]) (.s [false, false, true, true, false]), none⟩,
  ⟨some [false, false, false, false, true], .idxSl 1 (.s [true, true, true, false, false]) (.s [false, true, false, true, false]), none⟩,
  ⟨none, .store 1 (.s [false, false, false, false, true]) (.s [false, true, true, true, false]), none⟩]
  [(1, 3), (1, 6), (3, 6), (1, 8), (3, 8), (6, 8), (1, 11), (3, 11), (6, 11), (8, 11), (1, 13), (3, 13), (6, 13), (8, 13), (11, 13), (6, 15), (8, 15), (13, 15)] [[], [0], [], [2], [2, 3], [], [5], [], [7], [7, 8], [], [10], [], [12], [0, 1, 2, 3, 4, 10, 11], [0, 1, 2, 3, 4, 10, 11, 14], [0, 1, 2, 3, 4, 5, 6, 7, 8, 9, 10, 11, 12, 13, 14, 15], [0, 1, 2, 3, 4, 5, 6, 7, 8, 9, 10, 11, 12, 13, 14, 15, 16]])
def c47_o6 : CCode := .trim [[false, false], [true, false], [true, true], [false, false, false]] (.draw 0 [
  ⟨some [true, false, false, false, true], .fieldAddr 0 (.s [false, false, false]), none⟩,
  ⟨some [false, true, false, false, true], .load none (.s [true, false, false, false, true]), none⟩,
  ⟨some [true, true, false, false, true], .move (.s [true, true]), none⟩,
  ⟨some [false, false, true, false, true], .bin .sub (.s [true, true, false, false, true]) (.c (.int .i64 1)), none⟩,
  ⟨some [true, false, true, false, true], .fieldAddr 1 (.s [false, false, false]), none⟩,
  ⟨some [false, true, true, false, true], .load none (.s [true, false, true, false, true]), none⟩,
  ⟨some [true, true, true, false, true], .move (.s [true, true]), none⟩,
  ⟨some [false, false, false, true, true], .bin .sub (.s [true, true, true, false, true]) (.c (.int .i64 1)), none⟩,
  ⟨some [true, false, false, true, true], .idxArr 5 1 (.s [false, false]) (.c (.int .i64 4)), none⟩,
  ⟨some [false, true, false, true, true], .load none (.s [true, false, false, true, true]), none⟩,
  ⟨some [true, true, false, true, true], .idxArr 5 1 (.s [false, false]) (.c (.int .i64 4)), none⟩,
  ⟨some [false, false, true, true, true], .load none (.s [true, true, false, true, true]), none⟩,
  ⟨some [true, false, true, true, true], .bin .add (.s [false, false, true, true, true]) (.c (.int .i64 1)), none⟩,
  ⟨some [false, true, true, true, true], .idxSl 1 (.s [false, true, false, false, true]) (.s [false, false, true, false, true]), none⟩,
  ⟨none, .store 1 (.s [false, true, true, true, true]) (.s [false, true, false, true, true]), none⟩,
  ⟨some [true, true, true, true, true], .idxSl 1 (.s [false, true, true, false, true]) (.s [false, false, false, true, true]), none⟩,
  ⟨none, .store 1 (.s [true, true, true, true, true]) (.s [true, false, true, true, true]), none⟩]
  [(1, 5), (1, 9), (5, 9), (1, 11), (5, 11), (9, 11), (5, 14), (11, 14)] [[], [0], [], [2], [], [4], [], [6], [], [8], [], [10], [10, 11], [0, 1, 2, 3, 8, 9], [0, 1, 2, 3, 8, 9, 13], [0, 1, 2, 3, 4, 5, 6, 7, 8, 9, 10, 11, 12, 13, 14], [0, 1, 2, 3, 4, 5, 6, 7, 8, 9, 10, 11, 12, 13, 14, 15]])
def c47_o7 : CCode := .trim [[true, false], [false, false, false]] (.ops [
  ⟨some [false, false, false, false, false, false], .load (some 2) (.s [false, false, false]), none⟩,
  ⟨none, .store 2 (.s [true, false]) (.s [false, false, false, false, false, false]), none⟩,
  ⟨some [false, true], .move (.c (.int .i64 0)), none⟩])
def c47 : CFunc := { params := [[], [false]], results := [.cell [true, false] (some 2), .slot [false, true]], shared := false, body := (.seq c47_o0
 (.seq (.seq c47_o1
 (.cond (.s [true, false, false, false]) (.seq c47_o2
 .ret) .skip))
 (.seq c47_o3
 (.seq c47_o4
 (.seq c47_o5
 (.seq c47_o6
 (.seq c47_o7
 .ret))))))) }
-- numnah/numnahref05.Twice
-- c48_o0: 0=[] 1=[f]
-- c48_o1: 0=[] 3=[f, f]
-- c48_o2: 0=[] 5=[f, t] 6=[t, t] 7=[f, f, f] 8=[t, f, f] 9=[f, t, f]
def c48_o0 : CCode := .trim [[], [false]] (.ops [
  ⟨some [false, false], .box none (.s [false]), none⟩,
  ⟨some [true, false], .move (.c (.bool false)), none⟩])
def c48_o1 : CCode := .trim [[], [false, false]] (.draw 0 [
  ⟨some [true, true, false], .idxArr 5 1 (.s [false, false]) (.c (.int .i64 0)), none⟩,
  ⟨some [false, false, true], .load none (.s [true, true, false]), none⟩,
  ⟨some [true, false, true], .idxArr 5 1 (.s [false, false]) (.c (.int .i64 1)), none⟩,
  ⟨some [false, true, true], .load none (.s [true, false, true]), none⟩,
  ⟨some [true, true, true], .idxArr 5 1 (.s [false, false]) (.c (.int .i64 2)), none⟩,
  ⟨some [false, false, false, false], .load none (.s [true, true, true]), none⟩,
  ⟨some [true, false, false, false], .idxArr 5 1 (.s [false, false]) (.c (.int .i64 3)), none⟩,
  ⟨some [false, true, false, false], .load none (.s [true, false, false, false]), none⟩,
  ⟨some [true, true, false, false], .idxArr 5 1 (.s [false, false]) (.c (.int .i64 4)), none⟩,
  ⟨some [false, false, true, false], .load none (.s [true, true, false, false]), none⟩,
  ⟨some [false, true], .move (.s [false, false, true]), none⟩,
  ⟨some [true, true], .move (.s [false, true, true]), none⟩,
  ⟨some [false, false, false], .move (.s [false, false, false, false]), none⟩,
  ⟨some [true, false, false], .move (.s [false, true, false, false]), none⟩,
  ⟨some [false, true, false], .move (.s [false, false, true, false]), none⟩]
  [(1, 3), (1, 5), (3, 5), (1, 7), (3, 7), (5, 7), (1, 9), (3, 9), (5, 9), (7, 9)] [[], [0], [], [2], [], [4], [], [6], [], [8], [0, 1], [0, 1, 2, 3, 10], [0, 1, 2, 3, 4, 5, 10, 11], [0, 1, 2, 3, 4, 5, 6, 7, 10, 11, 12], [0, 1, 2, 3, 4, 5, 6, 7, 8, 9, 10, 11, 12, 13]])
def c48_o2 : CCode := .trim [[], [false, true], [true, true], [false, false, false], [true, false, false], [false, true, false]] (.ops [
  ⟨some [true, false, true, false], .move (.s [false, true]), none⟩,
  ⟨some [false, true, true, false], .bin .geq (.s [true, false, true, false]) (.c (.int .i64 1)), none⟩,
  ⟨some [true, true, true, false], .move (.s [false, true, true, false]), none⟩,
  ⟨some [false, false, false, true], .move (.s [false, true]), some ([true, true, true, false], true)⟩,
  ⟨some [true, false, false, true], .move (.s []), some ([true, true, true, false], true)⟩,
  ⟨some [false, true, false, true], .bin .leq (.s [false, false, false, true]) (.s [true, false, false, true]), some ([true, true, true, false], true)⟩,
  ⟨some [true, true, false, true], .pick (.s [true, true, true, false]) (.s [false, true, false, true]) (.c (.bool false)), none⟩,
  ⟨some [false, false, true, true], .move (.s [true, true, false, true]), none⟩,
  ⟨some [true, false, true, true], .move (.s [true, false, false]), some ([false, false, true, true], true)⟩,
  ⟨some [false, true, true, true], .bin .geq (.s [true, false, true, true]) (.c (.int .i64 1)), some ([false, false, true, true], true)⟩,
  ⟨some [true, true, true, true], .pick (.s [false, false, true, true]) (.s [false, true, true, true]) (.c (.bool false)), none⟩,
  ⟨some [false, false, false, false, false], .move (.s [true, true, true, true]), none⟩,
  ⟨some [true, false, false, false, false], .move (.s [true, false, false]), some ([false, false, false, false, false], true)⟩,
  ⟨some [false, true, false, false, false], .move (.s []), some ([false, false, false, false, false], true)⟩,
  ⟨some [true, true, false, false, false], .move (.s [false, true]), some ([false, false, false, false, false], true)⟩,
  ⟨some [false, false, true, false, false], .bin .sub (.s [false, true, false, false, false]) (.s [true, true, false, false, false]), some ([false, false, false, false, false], true)⟩,
  ⟨some [true, false, true, false, false], .bin .leq (.s [true, false, false, false, false]) (.s [false, false, true, false, false]), some ([false, false, false, false, false], true)⟩,
  ⟨some [false, true, true, false, false], .pick (.s [false, false, false, false, false]) (.s [true, false, true, false, false]) (.c (.bool false)), none⟩,
  ⟨some [true, true, true, false, false], .move (.s [false, true, true, false, false]), none⟩,
  ⟨some [false, false, false, true, false], .move (.s [true, true]), some ([true, true, true, false, false], true)⟩,
  ⟨some [true, false, false, true, false], .bin .geq (.s [false, false, false, true, false]) (.c (.int .i64 0)), some ([true, true, true, false, false], true)⟩,
  ⟨some [false, true, false, true, false], .pick (.s [true, true, true, false, false]) (.s [true, false, false, true, false]) (.c (.bool false)), none⟩,
  ⟨some [true, true, false, true, false], .move (.s [false, true, false, true, false]), none⟩,
  ⟨some [false, false, true, true, false], .move (.s [true, true]), some ([true, true, false, true, false], true)⟩,
  ⟨some [true, false, true, true, false], .move (.s [false, true]), some ([true, true, false, true, false], true)⟩,
  ⟨some [false, true, true, true, false], .bin .leq (.s [false, false, true, true, false]) (.s [true, false, true, true, false]), some ([true, true, false, true, false], true)⟩,
  ⟨some [true, true, true, true, false], .pick (.s [true, true, false, true, false]) (.s [false, true, true, true, false]) (.c (.bool false)), none⟩,
  ⟨some [false, false, false, false, true], .move (.s [true, true, true, true, false]), none⟩,
  ⟨some [true, false, false, false, true], .move (.s [true, true]), some ([false, false, false, false, true], true)⟩,
  ⟨some [false, true, false, false, true], .bin .add (.s [true, false, false, false, true]) (.c (.int .i64 1)), some ([false, false, false, false, true], true)⟩,
  ⟨some [true, true, false, false, true], .move (.s [false, false, false]), some ([false, false, false, false, true], true)⟩,
  ⟨some [false, false, true, false, true], .bin .lss (.s [false, true, false, false, true]) (.s [true, true, false, false, true]), some ([false, false, false, false, true], true)⟩,
  ⟨some [true, false, true, false, true], .pick (.s [false, false, false, false, true]) (.s [false, false, true, false, true]) (.c (.bool false)), none⟩,
  ⟨some [false, true, true, false, true], .move (.s [true, false, true, false, true]), none⟩,
  ⟨some [true, true, true, false, true], .move (.s [false, false, false]), some ([false, true, true, false, true], true)⟩,
  ⟨some [false, false, false, true, true], .move (.s [false, true]), some ([false, true, true, false, true], true)⟩,
  ⟨some [true, false, false, true, true], .bin .add (.s [false, false, false, true, true]) (.c (.int .i64 1)), some ([false, true, true, false, true], true)⟩,
  ⟨some [false, true, false, true, true], .bin .leq (.s [true, true, true, false, true]) (.s [true, false, false, true, true]), some ([false, true, true, false, true], true)⟩,
  ⟨some [true, true, false, true, true], .pick (.s [false, true, true, false, true]) (.s [false, true, false, true, true]) (.c (.bool false)), none⟩,
  ⟨some [false, false, true, true, true], .move (.s [true, true, false, true, true]), none⟩,
  ⟨some [true, false, true, true, true], .move (.s [false, false, false]), some ([false, false, true, true, true], true)⟩,
  ⟨some [false, true, true, true, true], .bin .sub (.s [true, false, true, true, true]) (.c (.int .i64 1)), some ([false, false, true, true, true], true)⟩,
  ⟨some [true, true, true, true, true], .move (.s [false, true, false]), some ([false, false, true, true, true], true)⟩,
  ⟨some [false, false, false, false, false, false], .bin .leq (.s [false, true, true, true, true]) (.s [true, true, true, true, true]), some ([false, false, true, true, true], true)⟩,
  ⟨some [true, false, false, false, false, false], .pick (.s [false, false, true, true, true]) (.s [false, false, false, false, false, false]) (.c (.bool false)), none⟩,
  ⟨some [false, true, false, false, false, false], .move (.s [true, false, false, false, false, false]), none⟩,
  ⟨some [true, true, false, false, false, false], .move (.s [false, true, false]), some ([false, true, false, false, false, false], true)⟩,
  ⟨some [false, false, true, false, false, false], .move (.s [false, true]), some ([false, true, false, false, false, false], true)⟩,
  ⟨some [true, false, true, false, false, false], .move (.s [true, false, false]), some ([false, true, false, false, false, false], true)⟩,
  ⟨some [false, true, true, false, false, false], .bin .add (.s [false, false, true, false, false, false]) (.s [true, false, true, false, false, false]), some ([false, true, false, false, false, false], true)⟩,
  ⟨some [true, true, true, false, false, false], .bin .lss (.s [true, true, false, false, false, false]) (.s [false, true, true, false, false, false]), some ([false, true, false, false, false, false], true)⟩,
  ⟨some [false, false, false, true, false, false], .pick (.s [false, true, false, false, false, false]) (.s [true, true, true, false, false, false]) (.c (.bool false)), none⟩,
  ⟨some [true, false], .move (.s [false, false, false, true, false, false]), none⟩])
def c48 : CFunc := { params := [[], [false]], results := [.slot [true, false]], shared := false, body := (.seq c48_o0
 (.seq c48_o1
 (.seq c48_o2
 .ret))) }
-- numnah/numnahref05.Merges
-- c49_o0: 0=[] 1=[f]
-- c49_o1: 2=[t] 3=[f, f]
-- c49_o2: 2=[t] 3=[f, f] 5=[f, t]
-- c49_o3: 2=[t] 3=[f, f] 5=[f, t] 6=[t, t]
-- c49_o4: 2=[t] 3=[f, f] 5=[f, t] 6=[t, t] 7=[f, f, f]
-- c49_o5: 2=[t] 3=[f, f] 5=[f, t] 6=[t, t] 7=[f, f, f]
-- c49_o6: 2=[t] 3=[f, f] 5=[f, t] 6=[t, t] 7=[f, f, f] 8=[t, f, f]
-- c49_o7: 2=[t] 3=[f, f] 5=[f, t] 6=[t, t] 7=[f, f, f] 8=[t, f, f] 9=[f, t, f]
-- c49_o8: 2=[t] 3=[f, f] 5=[f, t] 6=[t, t] 7=[f, f, f] 8=[t, f, f] 9=[f, t, f]
-- c49_o9: 2=[t] 3=[f, f] 5=[f, t] 6=[t, t] 7=[f, f, f] 8=[t, f, f] 9=[f, t, f]
-- c49_o10: 2=[t] 3=[f, f] 5=[f, t] 6=[t, t] 7=[f, f, f] 8=[t, f, f] 9=[f, t, f] 10=[t, t, f]
-- c49_o11: 2=[t] 3=[f, f] 5=[f, t] 6=[t, t] 7=[f, f, f] 8=[t, f, f] 9=[f, t, f]
-- c49_o12: 2=[t] 3=[f, f] 5=[f, t] 6=[t, t] 7=[f, f, f] 8=[t, f, f] 9=[f, t, f] 10=[t, t, f]
-- c49_o13: 2=[t] 3=[f, f] 5=[f, t] 6=[t, t] 7=[f, f, f] 8=[t, f, f] 9=[f, t, f]
-- c49_o14: 2=[t] 3=[f, f] 5=[f, t] 6=[t, t] 7=[f, f, f] 8=[t, f, f] 9=[f, t, f] 10=[t, t, f]
-- c49_o15: 
-- c49_o16: 2=[t] 3=[f, f] 5=[f, t] 6=[t, t] 7=[f, f, f] 8=[t, f, f] 9=[f, t, f] 10=[t, t, f]
-- c49_o17: 2=[t] 3=[f, f] 5=[f, t] 6=[t, t] 7=[f, f, f] 8=[t, f, f] 9=[f, t, f]
-- c49_l0: live slots [2, 3, 5, 6, 7, 8, 9]
-- c49_o18: 2=[t] 3=[f, f] 5=[f, t] 7=[f, f, f] 8=[t, f, f]
-- c49_o19: 2=[t] 3=[f, f] 5=[f, t] 6=[t, t] 7=[f, f, f]
-- c49_l1: live slots [2, 3, 5, 6, 7]
-- c49_o20: 
def c49_o0 : CCode := .trim [[], [false]] (.ops [
  ⟨some [true], .box none (.s []), none⟩,
  ⟨some [false, false], .box none (.s [false]), none⟩,
  ⟨some [true, false], .move (.c (.bool false)), none⟩])
def c49_o1 : CCode := .trim [[true], [false, false]] (.ops [
  ⟨some [false, false, true], .idxArr 5 1 (.s [true]) (.c (.int .i64 0)), none⟩,
  ⟨some [true, false, true], .load none (.s [false, false, true]), none⟩,
  ⟨some [false, true, true], .idxArr 5 1 (.s [true]) (.c (.int .i64 3)), none⟩,
  ⟨some [true, true, true], .load none (.s [false, true, true]), none⟩,
  ⟨some [false, false, false, false], .bin .add (.s [true, false, true]) (.s [true, true, true]), none⟩,
  ⟨some [false, true], .move (.s [false, false, false, false]), none⟩])
def c49_o2 : CCode := .trim [[true], [false, false], [false, true]] (.ops [
  ⟨some [true, false, false, false], .buildSlice none 1 1 [.bool false] [(0, 1, (.c (.bool true)))], none⟩,
  ⟨some [true, true], .move (.s [true, false, false, false]), none⟩])
def c49_o3 : CCode := .trim [[true], [false, false], [false, true], [true, true]] (.ops [
  ⟨some [false, false, false], .move (.c (.int .i64 1)), none⟩])
def c49_o4 : CCode := .trim [[true], [false, false], [false, true], [true, true], [false, false, false]] (.ops [
  ⟨some [false, true, false, false], .move (.s [false, false, false]), none⟩,
  ⟨some [true, true, false, false], .move (.s [false, true]), none⟩,
  ⟨some [false, false, true, false], .bin .leq (.s [false, true, false, false]) (.s [true, true, false, false]), none⟩])
def c49_o5 : CCode := .trim [[true], [false, false], [false, true], [true, true], [false, false, false]] (.ops [
  ⟨some [true, true, true, false], .move (.s [false, false, false]), none⟩,
  ⟨some [false, false, false, true], .bin .add (.s [true, true, true, false]) (.c (.int .i64 1)), none⟩,
  ⟨some [true, false, false, true], .makeSlice none 1 1 [.bool false] (.s [false, false, false, true]), none⟩,
  ⟨some [true, false, false], .move (.s [true, false, false, true]), none⟩])
def c49_o6 : CCode := .trim [[true], [false, false], [false, true], [true, true], [false, false, false], [true, false, false]] (.ops [
  ⟨some [false, true, false], .move (.c (.int .i64 0)), none⟩])
def c49_o7 : CCode := .trim [[true], [false, false], [false, true], [true, true], [false, false, false], [true, false, false], [false, true, false]] (.ops [
  ⟨some [false, true, false, true], .move (.s [false, true, false]), none⟩,
  ⟨some [true, true, false, true], .move (.s [false, false, false]), none⟩,
  ⟨some [false, false, true, true], .bin .leq (.s [false, true, false, true]) (.s [true, true, false, true]), none⟩])
def c49_o8 : CCode := .trim [[true], [false, false], [false, true], [true, true], [false, false, false], [true, false, false], [false, true, false]] (.ops [
  ⟨some [true, true, true, true], .move (.s [false, true, false]), none⟩,
  ⟨some [false, false, false, false, false], .move (.s [false, false, false]), none⟩,
  ⟨some [true, false, false, false, false], .bin .lss (.s [true, true, true, true]) (.s [false, false, false, false, false]), none⟩,
  ⟨some [false, true, false, false, false], .move (.s [true, false, false, false, false]), none⟩,
  ⟨some [true, true, false, false, false], .move (.s [true, true]), some ([false, true, false, false, false], true)⟩,
  ⟨some [false, false, true, false, false], .move (.s [false, true, false]), some ([false, true, false, false, false], true)⟩,
  ⟨some [true, false, true, false, false], .idxSl 1 (.s [true, true, false, false, false]) (.s [false, false, true, false, false]), some ([false, true, false, false, false], true)⟩,
  ⟨some [false, true, true, false, false], .load none (.s [true, false, true, false, false]), some ([false, true, false, false, false], true)⟩,
  ⟨some [true, true, true, false, false], .pick (.s [false, true, false, false, false]) (.s [false, true, true, false, false]) (.c (.bool false)), none⟩,
  ⟨some [false, false, false, true, false], .move (.s [true, true, true, false, false]), none⟩,
  ⟨some [true, false, false, true, false], .move (.s [false, true, false]), some ([false, false, false, true, false], false)⟩,
  ⟨some [false, true, false, true, false], .bin .gtr (.s [true, false, false, true, false]) (.c (.int .i64 0)), some ([false, false, false, true, false], false)⟩,
  ⟨some [true, true, false, true, false], .move (.s [false, true, false, true, false]), some ([false, false, false, true, false], false)⟩,
  ⟨some [false, false, true, true, false], .move (.s [true, true]), some ([true, true, false, true, false], true)⟩,
  ⟨some [true, false, true, true, false], .move (.s [false, true, false]), some ([true, true, false, true, false], true)⟩,
  ⟨some [false, true, true, true, false], .bin .sub (.s [true, false, true, true, false]) (.c (.int .i64 1)), some ([true, true, false, true, false], true)⟩,
  ⟨some [true, true, true, true, false], .idxSl 1 (.s [false, false, true, true, false]) (.s [false, true, true, true, false]), some ([true, true, false, true, false], true)⟩,
  ⟨some [false, false, false, false, true], .load none (.s [true, true, true, true, false]), some ([true, true, false, true, false], true)⟩,
  ⟨some [true, false, false, false, true], .pick (.s [true, true, false, true, false]) (.s [false, false, false, false, true]) (.c (.bool false)), some ([false, false, false, true, false], false)⟩,
  ⟨some [false, true, false, false, true], .pick (.s [false, false, false, true, false]) (.c (.bool true)) (.s [true, false, false, false, true]), none⟩,
  ⟨some [true, true, false, false, true], .un .not (.s [false, true, false, false, true]), none⟩])
def c49_o9 : CCode := .trim [[true], [false, false], [false, true], [true, true], [false, false, false], [true, false, false], [false, true, false]] (.ops [
  ⟨some [true, true, false], .move (.c (.int .i64 0)), none⟩])
def c49_o10 : CCode := .trim [[true], [false, false], [false, true], [true, true], [false, false, false], [true, false, false], [false, true, false], [true, true, false]] (.ops [
  ⟨some [false, false, true, false, true], .move (.s [false, false, false]), none⟩,
  ⟨some [true, false, true, false, true], .idxArr 5 1 (.s [true]) (.c (.int .i64 0)), none⟩,
  ⟨some [false, true, true, false, true], .load none (.s [true, false, true, false, true]), none⟩,
  ⟨some [true, true, true, false, true], .bin .eql (.s [false, false, true, false, true]) (.s [false, true, true, false, true]), none⟩,
  ⟨some [false, false, false, true, true], .move (.s [true, true, true, false, true]), none⟩,
  ⟨some [true, false, false, true, true], .move (.s [false, true, false]), some ([false, false, false, true, true], true)⟩,
  ⟨some [false, true, false, true, true], .idxArr 5 1 (.s [true]) (.c (.int .i64 1)), some ([false, false, false, true, true], true)⟩,
  ⟨some [true, true, false, true, true], .load none (.s [false, true, false, true, true]), some ([false, false, false, true, true], true)⟩,
  ⟨some [false, false, true, true, true], .bin .leq (.s [true, false, false, true, true]) (.s [true, true, false, true, true]), some ([false, false, false, true, true], true)⟩,
  ⟨some [true, false, true, true, true], .pick (.s [false, false, false, true, true]) (.s [false, false, true, true, true]) (.c (.bool false)), none⟩,
  ⟨some [false, true, true, true, true], .move (.s [true, false, true, true, true]), none⟩,
  ⟨some [true, true, true, true, true], .move (.s [false, false, false]), some ([false, true, true, true, true], false)⟩,
  ⟨some [false, false, false, false, false, false], .move (.s [false, true]), some ([false, true, true, true, true], false)⟩,
  ⟨some [true, false, false, false, false, false], .bin .eql (.s [true, true, true, true, true]) (.s [false, false, false, false, false, false]), some ([false, true, true, true, true], false)⟩,
  ⟨some [false, true, false, false, false, false], .move (.s [true, false, false, false, false, false]), some ([false, true, true, true, true], false)⟩,
  ⟨some [true, true, false, false, false, false], .move (.s [false, true, false]), some ([false, true, false, false, false, false], true)⟩,
  ⟨some [false, false, true, false, false, false], .idxArr 5 1 (.s [true]) (.c (.int .i64 4)), some ([false, true, false, false, false, false], true)⟩,
  ⟨some [true, false, true, false, false, false], .load none (.s [false, false, true, false, false, false]), some ([false, true, false, false, false, false], true)⟩,
  ⟨some [false, true, true, false, false, false], .bin .leq (.s [true, true, false, false, false, false]) (.s [true, false, true, false, false, false]), some ([false, true, false, false, false, false], true)⟩,
  ⟨some [true, true, true, false, false, false], .pick (.s [false, true, false, false, false, false]) (.s [false, true, true, false, false, false]) (.c (.bool false)), some ([false, true, true, true, true], false)⟩,
  ⟨some [false, false, false, true, false, false], .pick (.s [false, true, true, true, true]) (.c (.bool true)) (.s [true, true, true, false, false, false]), none⟩])
def c49_o11 : CCode := .trim [[true], [false, false], [false, true], [true, true], [false, false, false], [true, false, false], [false, true, false]] (.ops [
  ⟨some [true, true, false], .move (.c (.int .i64 1)), none⟩])
def c49_o12 : CCode := .trim [[true], [false, false], [false, true], [true, true], [false, false, false], [true, false, false], [false, true, false], [true, true, false]] (.ops [
  ⟨some [true, false, false, true, false, false], .move (.s [false, false, false]), none⟩,
  ⟨some [false, true, false, true, false, false], .idxArr 5 1 (.s [true]) (.c (.int .i64 0)), none⟩,
  ⟨some [true, true, false, true, false, false], .load none (.s [false, true, false, true, false, false]), none⟩,
  ⟨some [false, false, true, true, false, false], .bin .eql (.s [true, false, false, true, false, false]) (.s [true, true, false, true, false, false]), none⟩,
  ⟨some [true, false, true, true, false, false], .move (.s [false, false, true, true, false, false]), none⟩,
  ⟨some [false, true, true, true, false, false], .move (.s [false, true, false]), some ([true, false, true, true, false, false], true)⟩,
  ⟨some [true, true, true, true, false, false], .idxArr 5 1 (.s [true]) (.c (.int .i64 2)), some ([true, false, true, true, false, false], true)⟩,
  ⟨some [false, false, false, false, true, false], .load none (.s [true, true, true, true, false, false]), some ([true, false, true, true, false, false], true)⟩,
  ⟨some [true, false, false, false, true, false], .bin .geq (.s [false, true, true, true, false, false]) (.s [false, false, false, false, true, false]), some ([true, false, true, true, false, false], true)⟩,
  ⟨some [false, true, false, false, true, false], .pick (.s [true, false, true, true, false, false]) (.s [true, false, false, false, true, false]) (.c (.bool false)), none⟩,
  ⟨some [true, true, false, false, true, false], .move (.s [false, true, false, false, true, false]), none⟩,
  ⟨some [false, false, true, false, true, false], .move (.s [false, false, false]), some ([true, true, false, false, true, false], false)⟩,
  ⟨some [true, false, true, false, true, false], .move (.s [false, true]), some ([true, true, false, false, true, false], false)⟩,
  ⟨some [false, true, true, false, true, false], .bin .eql (.s [false, false, true, false, true, false]) (.s [true, false, true, false, true, false]), some ([true, true, false, false, true, false], false)⟩,
  ⟨some [true, true, true, false, true, false], .pick (.s [true, true, false, false, true, false]) (.c (.bool true)) (.s [false, true, true, false, true, false]), none⟩])
def c49_o13 : CCode := .trim [[true], [false, false], [false, true], [true, true], [false, false, false], [true, false, false], [false, true, false]] (.ops [
  ⟨some [true, true, false], .move (.c (.int .i64 (-1))), none⟩])
def c49_o14 : CCode := .trim [[true], [false, false], [false, true], [true, true], [false, false, false], [true, false, false], [false, true, false], [true, true, false]] (.ops [
  ⟨some [false, false, false, true, true, false], .load (some 2) (.s [false, false]), none⟩,
  ⟨some [true, false, false, true, true, false], .move (.s [false, false, false]), none⟩,
  ⟨some [false, true, false, true, true, false], .move (.s [false, true, false]), none⟩,
  ⟨some [true, true, false, true, true, false], .call false (.c (.func 65 [])) [(.s [false, false, false, true, true, false]), (.s [true, false, false, true, true, false]), (.s [false, true, false, true, true, false])], none⟩,
  ⟨some [false, false, true, true, true, false], .move (.s [true, true, false]), none⟩,
  ⟨some [true, false, true, true, true, false], .bin .neq (.s [true, true, false, true, true, false]) (.s [false, false, true, true, true, false]), none⟩])
def c49_o15 : CCode := .trim [] (.ops [
  ⟨some [true, false], .move (.c (.bool false)), none⟩])
def c49_o16 : CCode := .trim [[true], [false, false], [false, true], [true, true], [false, false, false], [true, false, false], [false, true, false], [true, true, false]] (.ops [
  ⟨some [false, true, true, true, true, false], .move (.s [true, false, false]), none⟩,
  ⟨some [true, true, true, true, true, false], .move (.s [false, true, false]), none⟩,
  ⟨some [false, false, false, false, false, true], .move (.s [true, true, false]), none⟩,
  ⟨some [true, false, false, false, false, true], .bin .eql (.s [false, false, false, false, false, true]) (.c (.int .i64 0)), none⟩,
  ⟨some [false, true, false, false, false, true], .idxSl 1 (.s [false, true, true, true, true, false]) (.s [true, true, true, true, true, false]), none⟩,
  ⟨none, .store 1 (.s [false, true, false, false, false, true]) (.s [true, false, false, false, false, true]), none⟩])
def c49_o17 : CCode := .trim [[true], [false, false], [false, true], [true, true], [false, false, false], [true, false, false], [false, true, false]] (.ops [
  ⟨some [true, false, true, true], .move (.s [false, true, false]), none⟩,
  ⟨some [false, true, true, true], .bin .add (.s [true, false, true, true]) (.c (.int .i64 1)), none⟩,
  ⟨some [false, true, false], .move (.s [false, true, true, true]), none⟩])
def c49_b0 : CCode := (.seq (.seq c49_o7
 (.cond (.s [false, false, true, true]) .skip (.exit 2)))
 (.seq (.block 3 (.seq (.seq c49_o8
 (.cond (.s [true, true, false, false, true]) (.exit 3) .skip))
 (.seq c49_o9
 (.seq (.seq c49_o10
 (.cond (.s [false, false, false, true, false, false]) c49_o11 (.seq c49_o12
 (.cond (.s [true, true, true, false, true, false]) c49_o13 .skip))))
 (.seq (.seq c49_o14
 (.cond (.s [true, false, true, true, true, false]) (.seq c49_o15
 .ret) .skip))
 c49_o16)))))
 c49_o17))
def c49_l0 : CCode := .loop [[true], [false, false], [false, true], [true, true], [false, false, false], [true, false, false], [false, true, false]] c49_b0
def c49_o18 : CCode := .trim [[true], [false, false], [false, true], [false, false, false], [true, false, false]] (.ops [
  ⟨some [true, true, false, false, false, true], .move (.s [true, false, false]), none⟩,
  ⟨some [true, true], .move (.s [true, true, false, false, false, true]), none⟩])
def c49_o19 : CCode := .trim [[true], [false, false], [false, true], [true, true], [false, false, false]] (.ops [
  ⟨some [true, false, true, false], .move (.s [false, false, false]), none⟩,
  ⟨some [false, true, true, false], .bin .add (.s [true, false, true, false]) (.c (.int .i64 1)), none⟩,
  ⟨some [false, false, false], .move (.s [false, true, true, false]), none⟩])
def c49_b1 : CCode := (.seq (.seq c49_o4
 (.cond (.s [false, false, true, false]) .skip (.exit 0)))
 (.seq (.block 1 (.seq c49_o5
 (.seq (.seq c49_o6
 (.block 2 c49_l0))
 c49_o18)))
 c49_o19))
def c49_l1 : CCode := .loop [[true], [false, false], [false, true], [true, true], [false, false, false]] c49_b1
def c49_o20 : CCode := .trim [] (.ops [
  ⟨some [true, false], .move (.c (.bool true)), none⟩])
def c49 : CFunc := { params := [[], [false]], results := [.slot [true, false]], shared := false, body := (.seq c49_o0
 (.seq c49_o1
 (.seq c49_o2
 (.seq (.seq c49_o3
 (.block 0 c49_l1))
 (.seq c49_o20
 .ret))))) }
-- numnah/numnahref05.Double
-- c50_o0: 0=[] 1=[f] 2=[t]
-- c50_o1: 0=[] 1=[f] 5=[f, t]
-- c50_o2: 0=[] 1=[f] 8=[t, f, f] 9=[f, t, f] 10=[t, t, f] 11=[f, f, t] 12=[t, f, t]
-- c50_o3: 0=[] 1=[f] 8=[t, f, f] 9=[f, t, f] 10=[t, t, f] 11=[f, f, t] 12=[t, f, t] 13=[f, t, t] 14=[t, t, t]
-- c50_o4: 0=[] 1=[f] 8=[t, f, f] 9=[f, t, f] 10=[t, t, f] 11=[f, f, t] 12=[t, f, t] 13=[f, t, t] 14=[t, t, t] 15=[f, f, f, f]
-- c50_o5: 0=[] 1=[f] 8=[t, f, f] 9=[f, t, f] 10=[t, t, f] 11=[f, f, t] 12=[t, f, t] 13=[f, t, t] 14=[t, t, t] 15=[f, f, f, f]
-- c50_o6: 0=[] 1=[f] 8=[t, f, f] 9=[f, t, f] 10=[t, t, f] 11=[f, f, t] 12=[t, f, t] 13=[f, t, t] 14=[t, t, t] 15=[f, f, f, f] 16=[t, f, f, f]
-- c50_o7: 0=[] 1=[f] 8=[t, f, f] 9=[f, t, f] 10=[t, t, f] 11=[f, f, t] 12=[t, f, t] 13=[f, t, t] 14=[t, t, t] 15=[f, f, f, f] 16=[t, f, f, f]
-- c50_o8: 0=[] 1=[f] 8=[t, f, f] 9=[f, t, f] 10=[t, t, f] 11=[f, f, t] 12=[t, f, t] 13=[f, t, t] 14=[t, t, t] 15=[f, f, f, f] 16=[t, f, f, f]
-- c50_o9: 0=[] 1=[f] 8=[t, f, f] 9=[f, t, f] 10=[t, t, f] 11=[f, f, t] 12=[t, f, t] 13=[f, t, t] 14=[t, t, t] 15=[f, f, f, f] 16=[t, f, f, f]
-- c50_o10: 0=[] 1=[f] 8=[t, f, f] 9=[f, t, f] 10=[t, t, f] 11=[f, f, t] 12=[t, f, t] 13=[f, t, t] 14=[t, t, t] 15=[f, f, f, f] 16=[t, f, f, f]
-- c50_o11: 0=[] 1=[f] 8=[t, f, f] 9=[f, t, f] 10=[t, t, f] 11=[f, f, t] 12=[t, f, t] 13=[f, t, t] 14=[t, t, t] 15=[f, f, f, f]
-- c50_o12: 0=[] 1=[f] 8=[t, f, f] 9=[f, t, f] 10=[t, t, f] 11=[f, f, t] 12=[t, f, t] 13=[f, t, t] 14=[t, t, t] 15=[f, f, f, f] 17=[f, t, f, f]
-- c50_o13: 0=[] 1=[f] 8=[t, f, f] 9=[f, t, f] 10=[t, t, f] 11=[f, f, t] 12=[t, f, t] 13=[f, t, t] 14=[t, t, t] 15=[f, f, f, f] 17=[f, t, f, f]
-- c50_o14: 0=[] 1=[f] 8=[t, f, f] 9=[f, t, f] 10=[t, t, f] 11=[f, f, t] 12=[t, f, t] 13=[f, t, t] 14=[t, t, t] 15=[f, f, f, f] 17=[f, t, f, f]
-- c50_l0: live slots [0, 1, 8, 9, 10, 11, 12, 13, 14, 15, 17]
-- c50_o15: 0=[] 1=[f] 8=[t, f, f] 9=[f, t, f] 10=[t, t, f] 11=[f, f, t] 12=[t, f, t] 13=[f, t, t] 14=[t, t, t] 15=[f, f, f, f]
-- c50_l1: live slots [0, 1, 8, 9, 10, 11, 12, 13, 14, 15]
-- c50_o16: 13=[f, t, t] 14=[t, t, t]
def c50_o0 : CCode := .trim [[], [false], [true]] (.ops [
  ⟨some [false, true], .box none (.s [true]), none⟩,
  ⟨some [true, true], .move (.c (.int .i64 0)), none⟩,
  ⟨some [false, false, false], .move (.c (.int .i64 0)), none⟩])
def c50_o1 : CCode := .trim [[], [false], [false, true]] (.draw 0 [
  ⟨some [true, true, false, false], .idxArr 5 1 (.s [false, true]) (.c (.int .i64 0)), none⟩,
  ⟨some [false, false, true, false], .load none (.s [true, true, false, false]), none⟩,
  ⟨some [true, false, true, false], .idxArr 5 1 (.s [false, true]) (.c (.int .i64 1)), none⟩,
  ⟨some [false, true, true, false], .load none (.s [true, false, true, false]), none⟩,
  ⟨some [true, true, true, false], .idxArr 5 1 (.s [false, true]) (.c (.int .i64 2)), none⟩,
  ⟨some [false, false, false, true], .load none (.s [true, true, true, false]), none⟩,
  ⟨some [true, false, false, true], .idxArr 5 1 (.s [false, true]) (.c (.int .i64 3)), none⟩,
  ⟨some [false, true, false, true], .load none (.s [true, false, false, true]), none⟩,
  ⟨some [true, true, false, true], .idxArr 5 1 (.s [false, true]) (.c (.int .i64 4)), none⟩,
  ⟨some [false, false, true, true], .load none (.s [true, true, false, true]), none⟩,
  ⟨some [true, false, false], .move (.s [false, false, true, false]), none⟩,
  ⟨some [false, true, false], .move (.s [false, true, true, false]), none⟩,
  ⟨some [true, true, false], .move (.s [false, false, false, true]), none⟩,
  ⟨some [false, false, true], .move (.s [false, true, false, true]), none⟩,
  ⟨some [true, false, true], .move (.s [false, false, true, true]), none⟩]
  [(1, 3), (1, 5), (3, 5), (1, 7), (3, 7), (5, 7), (1, 9), (3, 9), (5, 9), (7, 9)] [[], [0], [], [2], [], [4], [], [6], [], [8], [0, 1], [0, 1, 2, 3, 10], [0, 1, 2, 3, 4, 5, 10, 11], [0, 1, 2, 3, 4, 5, 6, 7, 10, 11, 12], [0, 1, 2, 3, 4, 5, 6, 7, 8, 9, 10, 11, 12, 13]])
def c50_o2 : CCode := .trim [[], [false], [true, false, false], [false, true, false], [true, true, false], [false, false, true], [true, false, true]] (.ops [
  ⟨some [false, true, true], .move (.c (.int .i64 0)), none⟩,
  ⟨some [true, true, true], .move (.c (.int .i64 0)), none⟩])
def c50_o3 : CCode := .trim [[], [false], [true, false, false], [false, true, false], [true, true, false], [false, false, true], [true, false, true], [false, true, true], [true, true, true]] (.ops [
  ⟨some [false, false, false, false], .move (.c (.int .i64 0)), none⟩])
def c50_o4 : CCode := .trim [[], [false], [true, false, false], [false, true, false], [true, true, false], [false, false, true], [true, false, true], [false, true, true], [true, true, true], [false, false, false, false]] (.ops [
  ⟨some [true, false, true, true], .move (.s [false, false, false, false]), none⟩,
  ⟨some [false, true, true, true], .move (.s [true, false, false]), none⟩,
  ⟨some [true, true, true, true], .bin .leq (.s [true, false, true, true]) (.s [false, true, true, true]), none⟩])
def c50_o5 : CCode := .trim [[], [false], [true, false, false], [false, true, false], [true, true, false], [false, false, true], [true, false, true], [false, true, true], [true, true, true], [false, false, false, false]] (.ops [
  ⟨some [false, true, false, false, false], .move (.s [true, false, false]), none⟩,
  ⟨some [true, true, false, false, false], .move (.s [false, false, false, false]), none⟩,
  ⟨some [false, false, true, false, false], .call false (.c (.func 29 [])) [(.s [false, true, false, false, false]), (.s [true, true, false, false, false])], none⟩,
  ⟨some [true, false, true, false, false], .move (.s []), none⟩,
  ⟨some [false, true, true, false, false], .move (.s [true, false, false]), none⟩,
  ⟨some [true, true, true, false, false], .bin .sub (.s [true, false, true, false, false]) (.s [false, true, true, false, false]), none⟩,
  ⟨some [false, false, false, true, false], .move (.s [false]), none⟩,
  ⟨some [true, false, false, true, false], .move (.s [false, false, false, false]), none⟩,
  ⟨some [false, true, false, true, false], .bin .sub (.s [false, false, false, true, false]) (.s [true, false, false, true, false]), none⟩,
  ⟨some [true, true, false, true, false], .call false (.c (.func 29 [])) [(.s [true, true, true, false, false]), (.s [false, true, false, true, false])], none⟩,
  ⟨some [false, false, true, true, false], .bin .mul (.s [false, false, true, false, false]) (.s [true, true, false, true, false]), none⟩,
  ⟨some [true, false, false, false], .move (.s [false, false, true, true, false]), none⟩])
def c50_o6 : CCode := .trim [[], [false], [true, false, false], [false, true, false], [true, true, false], [false, false, true], [true, false, true], [false, true, true], [true, true, true], [false, false, false, false], [true, false, false, false]] (.ops [
  ⟨some [true, false, true, true, false], .move (.s [true, true, true]), none⟩,
  ⟨some [false, true, true, true, false], .move (.s [true, false, false]), none⟩,
  ⟨some [true, true, true, true, false], .move (.s [true, false, false, false]), none⟩,
  ⟨some [false, false, false, false, true], .bin .mul (.s [false, true, true, true, false]) (.s [true, true, true, true, false]), none⟩,
  ⟨some [true, false, false, false, true], .bin .add (.s [true, false, true, true, false]) (.s [false, false, false, false, true]), none⟩,
  ⟨some [true, true, true], .move (.s [true, false, false, false, true]), none⟩])
def c50_o7 : CCode := .trim [[], [false], [true, false, false], [false, true, false], [true, true, false], [false, false, true], [true, false, true], [false, true, true], [true, true, true], [false, false, false, false], [true, false, false, false]] (.ops [
  ⟨some [false, true, false, false, true], .move (.s [false, false, false, false]), none⟩,
  ⟨some [true, true, false, false, true], .move (.s [false, true, false]), none⟩,
  ⟨some [false, false, true, false, true], .bin .leq (.s [false, true, false, false, true]) (.s [true, true, false, false, true]), none⟩])
def c50_o8 : CCode := .trim [[], [false], [true, false, false], [false, true, false], [true, true, false], [false, false, true], [true, false, true], [false, true, true], [true, true, true], [false, false, false, false], [true, false, false, false]] (.ops [
  ⟨some [true, false, true, false, true], .move (.s [false, true, true]), none⟩,
  ⟨some [false, true, true, false, true], .move (.s [true, false, false, false]), none⟩,
  ⟨some [true, true, true, false, true], .bin .add (.s [true, false, true, false, true]) (.s [false, true, true, false, true]), none⟩,
  ⟨some [false, true, true], .move (.s [true, true, true, false, true]), none⟩])
def c50_o9 : CCode := .trim [[], [false], [true, false, false], [false, true, false], [true, true, false], [false, false, true], [true, false, true], [false, true, true], [true, true, true], [false, false, false, false], [true, false, false, false]] (.ops [
  ⟨some [false, false, false, true, true], .move (.s [false, false, false, false]), none⟩,
  ⟨some [true, false, false, true, true], .move (.s [false, true, false]), none⟩,
  ⟨some [false, true, false, true, true], .bin .leq (.s [false, false, false, true, true]) (.s [true, false, false, true, true]), none⟩,
  ⟨some [true, true, false, true, true], .move (.s [false, true, false, true, true]), none⟩,
  ⟨some [false, false, true, true, true], .move (.s [false, false, false, false]), some ([true, true, false, true, true], false)⟩,
  ⟨some [true, false, true, true, true], .move (.s [true, true, false]), some ([true, true, false, true, true], false)⟩,
  ⟨some [false, true, true, true, true], .bin .geq (.s [false, false, true, true, true]) (.s [true, false, true, true, true]), some ([true, true, false, true, true], false)⟩,
  ⟨some [true, true, true, true, true], .pick (.s [true, true, false, true, true]) (.c (.bool true)) (.s [false, true, true, true, true]), none⟩])
def c50_o10 : CCode := .trim [[], [false], [true, false, false], [false, true, false], [true, true, false], [false, false, true], [true, false, true], [false, true, true], [true, true, true], [false, false, false, false], [true, false, false, false]] (.ops [
  ⟨some [false, false, false, false, false, false], .move (.s [true, true, true]), none⟩,
  ⟨some [true, false, false, false, false, false], .move (.s [false, false, true]), none⟩,
  ⟨some [false, true, false, false, false, false], .move (.s [true, false, false, false]), none⟩,
  ⟨some [true, true, false, false, false, false], .bin .mul (.s [true, false, false, false, false, false]) (.s [false, true, false, false, false, false]), none⟩,
  ⟨some [false, false, true, false, false, false], .bin .add (.s [false, false, false, false, false, false]) (.s [true, true, false, false, false, false]), none⟩,
  ⟨some [true, true, true], .move (.s [false, false, true, false, false, false]), none⟩])
def c50_o11 : CCode := .trim [[], [false], [true, false, false], [false, true, false], [true, true, false], [false, false, true], [true, false, true], [false, true, true], [true, true, true], [false, false, false, false]] (.ops [
  ⟨some [false, true, false, false], .move (.c (.int .i64 0)), none⟩])
def c50_o12 : CCode := .trim [[], [false], [true, false, false], [false, true, false], [true, true, false], [false, false, true], [true, false, true], [false, true, true], [true, true, true], [false, false, false, false], [false, true, false, false]] (.ops [
  ⟨some [true, false, true, false, false, false], .move (.s [false, true, false, false]), none⟩,
  ⟨some [false, true, true, false, false, false], .move (.s [false, false, true]), none⟩,
  ⟨some [true, true, true, false, false, false], .bin .leq (.s [true, false, true, false, false, false]) (.s [false, true, true, false, false, false]), none⟩,
  ⟨some [false, false, false, true, false, false], .move (.s [true, true, true, false, false, false]), none⟩,
  ⟨some [true, false, false, true, false, false], .move (.s [false, false, false, false]), some ([false, false, false, true, false, false], true)⟩,
  ⟨some [false, true, false, true, false, false], .move (.s [false, true, false, false]), some ([false, false, false, true, false, false], true)⟩,
  ⟨some [true, true, false, true, false, false], .bin .add (.s [true, false, false, true, false, false]) (.s [false, true, false, true, false, false]), some ([false, false, false, true, false, false], true)⟩,
  ⟨some [false, false, true, true, false, false], .move (.s [true, false, true]), some ([false, false, false, true, false, false], true)⟩,
  ⟨some [true, false, true, true, false, false], .bin .leq (.s [true, true, false, true, false, false]) (.s [false, false, true, true, false, false]), some ([false, false, false, true, false, false], true)⟩,
  ⟨some [false, true, true, true, false, false], .pick (.s [false, false, false, true, false, false]) (.s [true, false, true, true, false, false]) (.c (.bool false)), none⟩])
def c50_o13 : CCode := .trim [[], [false], [true, false, false], [false, true, false], [true, true, false], [false, false, true], [true, false, true], [false, true, true], [true, true, true], [false, false, false, false], [false, true, false, false]] (.ops [
  ⟨some [true, false, false, false, true, false], .move (.s [false, true, true]), none⟩,
  ⟨some [false, true, false, false, true, false], .move (.s [true, false, false]), none⟩,
  ⟨some [true, true, false, false, true, false], .move (.s [false, false, false, false]), none⟩,
  ⟨some [false, false, true, false, true, false], .call false (.c (.func 29 [])) [(.s [false, true, false, false, true, false]), (.s [true, true, false, false, true, false])], none⟩,
  ⟨some [true, false, true, false, true, false], .move (.s [false, false, true]), none⟩,
  ⟨some [false, true, true, false, true, false], .move (.s [false, true, false, false]), none⟩,
  ⟨some [true, true, true, false, true, false], .call false (.c (.func 29 [])) [(.s [true, false, true, false, true, false]), (.s [false, true, true, false, true, false])], none⟩,
  ⟨some [false, false, false, true, true, false], .bin .mul (.s [false, false, true, false, true, false]) (.s [true, true, true, false, true, false]), none⟩,
  ⟨some [true, false, false, true, true, false], .move (.s []), none⟩,
  ⟨some [false, true, false, true, true, false], .move (.s [true, false, false]), none⟩,
  ⟨some [true, true, false, true, true, false], .bin .sub (.s [true, false, false, true, true, false]) (.s [false, true, false, true, true, false]), none⟩,
  ⟨some [false, false, true, true, true, false], .move (.s [false, false, true]), none⟩,
  ⟨some [true, false, true, true, true, false], .bin .sub (.s [true, true, false, true, true, false]) (.s [false, false, true, true, true, false]), none⟩,
  ⟨some [false, true, true, true, true, false], .move (.s [false]), none⟩,
  ⟨some [true, true, true, true, true, false], .move (.s [false, false, false, false]), none⟩,
  ⟨some [false, false, false, false, false, true], .bin .sub (.s [false, true, true, true, true, false]) (.s [true, true, true, true, true, false]), none⟩,
  ⟨some [true, false, false, false, false, true], .move (.s [false, true, false, false]), none⟩,
  ⟨some [false, true, false, false, false, true], .bin .sub (.s [false, false, false, false, false, true]) (.s [true, false, false, false, false, true]), none⟩,
  ⟨some [true, true, false, false, false, true], .call false (.c (.func 29 [])) [(.s [true, false, true, true, true, false]), (.s [false, true, false, false, false, true])], none⟩,
  ⟨some [false, false, true, false, false, true], .bin .mul (.s [false, false, false, true, true, false]) (.s [true, true, false, false, false, true]), none⟩,
  ⟨some [true, false, true, false, false, true], .bin .add (.s [true, false, false, false, true, false]) (.s [false, false, true, false, false, true]), none⟩,
  ⟨some [false, true, true], .move (.s [true, false, true, false, false, true]), none⟩])
def c50_o14 : CCode := .trim [[], [false], [true, false, false], [false, true, false], [true, true, false], [false, false, true], [true, false, true], [false, true, true], [true, true, true], [false, false, false, false], [false, true, false, false]] (.ops [
  ⟨some [true, true, true, true, false, false], .move (.s [false, true, false, false]), none⟩,
  ⟨some [false, false, false, false, true, false], .bin .add (.s [true, true, true, true, false, false]) (.c (.int .i64 1)), none⟩,
  ⟨some [false, true, false, false], .move (.s [false, false, false, false, true, false]), none⟩])
def c50_b0 : CCode := (.seq (.seq c50_o12
 (.cond (.s [false, true, true, true, false, false]) .skip (.exit 2)))
 (.seq (.block 3 c50_o13)
 c50_o14))
def c50_l0 : CCode := .loop [[], [false], [true, false, false], [false, true, false], [true, true, false], [false, false, true], [true, false, true], [false, true, true], [true, true, true], [false, false, false, false], [false, true, false, false]] c50_b0
def c50_o15 : CCode := .trim [[], [false], [true, false, false], [false, true, false], [true, true, false], [false, false, true], [true, false, true], [false, true, true], [true, true, true], [false, false, false, false]] (.ops [
  ⟨some [false, false, false, false, false], .move (.s [false, false, false, false]), none⟩,
  ⟨some [true, false, false, false, false], .bin .add (.s [false, false, false, false, false]) (.c (.int .i64 1)), none⟩,
  ⟨some [false, false, false, false], .move (.s [true, false, false, false, false]), none⟩])
def c50_b1 : CCode := (.seq (.seq c50_o4
 (.cond (.s [true, true, true, true]) .skip (.exit 0)))
 (.seq (.block 1 (.seq c50_o5
 (.seq c50_o6
 (.seq (.seq c50_o7
 (.cond (.s [false, false, true, false, true]) c50_o8 .skip))
 (.seq (.seq c50_o9
 (.cond (.s [true, true, true, true, true]) (.exit 1) .skip))
 (.seq c50_o10
 (.seq c50_o11
 (.block 2 c50_l0))))))))
 c50_o15))
def c50_l1 : CCode := .loop [[], [false], [true, false, false], [false, true, false], [true, true, false], [false, false, true], [true, false, true], [false, true, true], [true, true, true], [false, false, false, false]] c50_b1
def c50_o16 : CCode := .trim [[false, true, true], [true, true, true]] (.ops [
  ⟨some [false, true, true, false, false, true], .move (.s [false, true, true]), none⟩,
  ⟨some [true, true, true, false, false, true], .move (.s [true, true, true]), none⟩,
  ⟨some [true, true], .move (.s [false, true, true, false, false, true]), none⟩,
  ⟨some [false, false, false], .move (.s [true, true, true, false, false, true]), none⟩])
def c50 : CFunc := { params := [[], [false], [true]], results := [.slot [true, true], .slot [false, false, false]], shared := false, body := (.seq c50_o0
 (.seq c50_o1
 (.seq c50_o2
 (.seq (.seq c50_o3
 (.block 0 c50_l1))
 (.seq c50_o16
 .ret))))) }
-- numnah/numnahlaw05.double
-- c51_o0: 0=[]
-- c51_o1: 1=[f] 3=[f, f]
-- c51_o2: 1=[f] 3=[f, f] 4=[t, f]
-- c51_o3: 1=[f] 3=[f, f] 4=[t, f] 5=[f, t]
-- c51_o4: 1=[f] 3=[f, f] 4=[t, f] 5=[f, t] 6=[t, t]
-- c51_o5: 1=[f] 3=[f, f] 4=[t, f] 5=[f, t] 6=[t, t] 7=[f, f, f]
-- c51_o6: 1=[f] 3=[f, f] 4=[t, f] 5=[f, t] 6=[t, t] 7=[f, f, f] 8=[t, f, f]
-- c51_o7: 3=[f, f] 4=[t, f] 5=[f, t] 6=[t, t] 7=[f, f, f] 8=[t, f, f] 9=[f, t, f]
def c51_o0 : CCode := .trim [[]] (.ops [
  ⟨some [false], .box none (.s []), none⟩,
  ⟨some [true], .move (.c (.int .i64 0)), none⟩,
  ⟨some [false, false], .alloc none [.int .i64 0, .int .i64 0, .int .i64 0, .int .i64 0, .int .i64 0], none⟩])
def c51_o1 : CCode := .trim [[false], [false, false]] (.ops [
  ⟨some [true, true, false], .idxArr 6 1 (.s [false]) (.c (.int .i64 0)), none⟩,
  ⟨some [false, false, true], .load none (.s [true, true, false]), none⟩,
  ⟨some [true, false, true], .call false (.c (.func 24 [])) [(.s [false, false, true]), (.c (.int .i64 35))], none⟩,
  ⟨some [false, true, true], .bin .add (.c (.int .i64 2)) (.s [true, false, true]), none⟩,
  ⟨some [true, false], .move (.s [false, true, true]), none⟩])
def c51_o2 : CCode := .trim [[false], [false, false], [true, false]] (.ops [
  ⟨some [true, true, true], .idxArr 6 1 (.s [false]) (.c (.int .i64 1)), none⟩,
  ⟨some [false, false, false, false], .load none (.s [true, true, true]), none⟩,
  ⟨some [true, false, false, false], .move (.s [true, false]), none⟩,
  ⟨some [false, true, false, false], .bin .sub (.s [true, false, false, false]) (.c (.int .i64 1)), none⟩,
  ⟨some [true, true, false, false], .call false (.c (.func 24 [])) [(.s [false, false, false, false]), (.s [false, true, false, false])], none⟩,
  ⟨some [false, false, true, false], .bin .add (.c (.int .i64 1)) (.s [true, true, false, false]), none⟩,
  ⟨some [false, true], .move (.s [false, false, true, false]), none⟩])
def c51_o3 : CCode := .trim [[false], [false, false], [true, false], [false, true]] (.ops [
  ⟨some [true, false, true, false], .idxArr 6 1 (.s [false]) (.c (.int .i64 2)), none⟩,
  ⟨some [false, true, true, false], .load none (.s [true, false, true, false]), none⟩,
  ⟨some [true, true, true, false], .move (.s [true, false]), none⟩,
  ⟨some [false, false, false, true], .move (.s [false, true]), none⟩,
  ⟨some [true, false, false, true], .bin .sub (.s [true, true, true, false]) (.s [false, false, false, true]), none⟩,
  ⟨some [false, true, false, true], .call false (.c (.func 24 [])) [(.s [false, true, true, false]), (.s [true, false, false, true])], none⟩,
  ⟨some [true, true, false, true], .bin .add (.c (.int .i64 1)) (.s [false, true, false, true]), none⟩,
  ⟨some [true, true], .move (.s [true, true, false, true]), none⟩])
def c51_o4 : CCode := .trim [[false], [false, false], [true, false], [false, true], [true, true]] (.ops [
  ⟨some [false, false, true, true], .idxArr 6 1 (.s [false]) (.c (.int .i64 3)), none⟩,
  ⟨some [true, false, true, true], .load none (.s [false, false, true, true]), none⟩,
  ⟨some [false, true, true, true], .move (.s [false, true]), none⟩,
  ⟨some [true, true, true, true], .call false (.c (.func 24 [])) [(.s [true, false, true, true]), (.s [false, true, true, true])], none⟩,
  ⟨some [false, false, false], .move (.s [true, true, true, true]), none⟩])
def c51_o5 : CCode := .trim [[false], [false, false], [true, false], [false, true], [true, true], [false, false, false]] (.ops [
  ⟨some [false, false, false, false, false], .move (.s [false, false, false]), none⟩,
  ⟨some [true, false, false, false, false], .bin .add (.s [false, false, false, false, false]) (.c (.int .i64 2)), none⟩,
  ⟨some [false, true, false, false, false], .idxArr 6 1 (.s [false]) (.c (.int .i64 4)), none⟩,
  ⟨some [true, true, false, false, false], .load none (.s [false, true, false, false, false]), none⟩,
  ⟨some [false, false, true, false, false], .move (.s [false, true]), none⟩,
  ⟨some [true, false, true, false, false], .move (.s [false, false, false]), none⟩,
  ⟨some [false, true, true, false, false], .bin .sub (.s [false, false, true, false, false]) (.s [true, false, true, false, false]), none⟩,
  ⟨some [true, true, true, false, false], .call false (.c (.func 24 [])) [(.s [true, true, false, false, false]), (.s [false, true, true, false, false])], none⟩,
  ⟨some [false, false, false, true, false], .bin .add (.s [true, false, false, false, false]) (.s [true, true, true, false, false]), none⟩,
  ⟨some [true, false, false], .move (.s [false, false, false, true, false]), none⟩])
def c51_o6 : CCode := .trim [[false], [false, false], [true, false], [false, true], [true, true], [false, false, false], [true, false, false]] (.ops [
  ⟨some [true, false, false, true, false], .move (.s [true, false, false]), none⟩,
  ⟨some [false, true, false, true, false], .bin .sub (.s [true, false, false, true, false]) (.c (.int .i64 1)), none⟩,
  ⟨some [true, true, false, true, false], .idxArr 6 1 (.s [false]) (.c (.int .i64 5)), none⟩,
  ⟨some [false, false, true, true, false], .load none (.s [true, true, false, true, false]), none⟩,
  ⟨some [true, false, true, true, false], .move (.s [false, true]), none⟩,
  ⟨some [false, true, true, true, false], .move (.s [true, true]), none⟩,
  ⟨some [true, true, true, true, false], .bin .add (.s [true, false, true, true, false]) (.s [false, true, true, true, false]), none⟩,
  ⟨some [false, false, false, false, true], .move (.s [true, false, false]), none⟩,
  ⟨some [true, false, false, false, true], .bin .sub (.s [true, true, true, true, false]) (.s [false, false, false, false, true]), none⟩,
  ⟨some [false, true, false, false, true], .bin .add (.s [true, false, false, false, true]) (.c (.int .i64 1)), none⟩,
  ⟨some [true, true, false, false, true], .call false (.c (.func 24 [])) [(.s [false, false, true, true, false]), (.s [false, true, false, false, true])], none⟩,
  ⟨some [false, false, true, false, true], .bin .add (.s [false, true, false, true, false]) (.s [true, true, false, false, true]), none⟩,
  ⟨some [false, true, false], .move (.s [false, false, true, false, true]), none⟩])
def c51_o7 : CCode := .trim [[false, false], [true, false], [false, true], [true, true], [false, false, false], [true, false, false], [false, true, false]] (.ops [
  ⟨some [true, false, true, false, true], .move (.s [true, false]), none⟩,
  ⟨some [false, true, true, false, true], .move (.s [false, true]), none⟩,
  ⟨some [true, true, true, false, true], .move (.s [false, false, false]), none⟩,
  ⟨some [false, false, false, true, true], .move (.s [true, false, false]), none⟩,
  ⟨some [true, false, false, true, true], .move (.s [true, true]), none⟩,
  ⟨some [false, true, false, true, true], .move (.s [false, true, false]), none⟩,
  ⟨some [true, true, false, true, true], .build [.int .i64 0, .int .i64 0, .int .i64 0, .int .i64 0, .int .i64 0] [(0, 1, (.s [false, true, true, false, true])), (1, 1, (.s [true, true, true, false, true])), (2, 1, (.s [false, false, false, true, true])), (3, 1, (.s [true, false, false, true, true])), (4, 1, (.s [false, true, false, true, true]))], none⟩,
  ⟨some [true], .move (.s [true, false, true, false, true]), none⟩,
  ⟨none, .store 5 (.s [false, false]) (.s [true, true, false, true, true]), none⟩])
def c51 : CFunc := { params := [[]], results := [.slot [true], .cell [false, false] (some 5)], shared := false, body := (.seq c51_o0
 (.seq c51_o1
 (.seq c51_o2
 (.seq c51_o3
 (.seq c51_o4
 (.seq c51_o5
 (.seq c51_o6
 (.seq c51_o7
 .ret)))))))) }
-- numnah/sample.isLot
def c52 : CFunc := { params := [[], [false]], results := [.slot [true, false]], shared := false, body := (.seq (.ops [
  ⟨some [true, false], .move (.c (.bool false)), none⟩])
 (.seq (.ops [
  ⟨some [false, true], .move (.s []), none⟩,
  ⟨some [true, true], .call false (.c (.func 67 [])) [(.s [false, true]), (.c (.int .i64 1)), (.c (.int .i64 36))], none⟩,
  ⟨some [false, false, false], .move (.s [true, true]), none⟩,
  ⟨some [true, false, false], .move (.s [false]), some ([false, false, false], true)⟩,
  ⟨some [false, true, false], .move (.s []), some ([false, false, false], true)⟩,
  ⟨some [true, true, false], .call false (.c (.func 67 [])) [(.s [true, false, false]), (.c (.int .i64 0)), (.s [false, true, false])], some ([false, false, false], true)⟩,
  ⟨some [false, false, true], .pick (.s [false, false, false]) (.s [true, true, false]) (.c (.bool false)), none⟩,
  ⟨some [true, false], .move (.s [false, false, true]), none⟩])
 .ret)) }
-- numnah/sample.isChance
-- c53_o0: 0=[]
-- c53_o1: 1=[f]
def c53_o0 : CCode := .trim [[]] (.ops [
  ⟨some [false], .box none (.s []), none⟩,
  ⟨some [true], .move (.c (.bool false)), none⟩])
def c53_o1 : CCode := .trim [[false]] (.ops [
  ⟨some [false, false], .fieldAddr 1 (.s [false]), none⟩,
  ⟨some [true, false], .load none (.s [false, false]), none⟩,
  ⟨some [false, true], .call false (.c (.func 67 [])) [(.s [true, false]), (.c (.int .i64 1)), (.c (.int .i64 1000))], none⟩,
  ⟨some [true, true], .move (.s [false, true]), none⟩,
  ⟨some [false, false, false], .fieldAddr 0 (.s [false]), some ([true, true], true)⟩,
  ⟨some [true, false, false], .load none (.s [false, false, false]), some ([true, true], true)⟩,
  ⟨some [false, true, false], .fieldAddr 1 (.s [false]), some ([true, true], true)⟩,
  ⟨some [true, true, false], .load none (.s [false, true, false]), some ([true, true], true)⟩,
  ⟨some [false, false, true], .call false (.c (.func 67 [])) [(.s [true, false, false]), (.c (.int .i64 0)), (.s [true, true, false])], some ([true, true], true)⟩,
  ⟨some [true, false, true], .pick (.s [true, true]) (.s [false, false, true]) (.c (.bool false)), none⟩,
  ⟨some [false, true, true], .move (.s [true, false, true]), none⟩,
  ⟨some [true, true, true], .fieldAddr 0 (.s [false]), some ([false, true, true], true)⟩,
  ⟨some [false, false, false, false], .load none (.s [true, true, true]), some ([false, true, true], true)⟩,
  ⟨some [true, false, false, false], .fieldAddr 1 (.s [false]), some ([false, true, true], true)⟩,
  ⟨some [false, true, false, false], .load none (.s [true, false, false, false]), some ([false, true, true], true)⟩,
  ⟨some [true, true, false, false], .call false (.c (.func 68 [])) [(.s [false, false, false, false]), (.s [false, true, false, false])], some ([false, true, true], true)⟩,
  ⟨some [false, false, true, false], .bin .eql (.s [true, true, false, false]) (.c (.int .i64 1)), some ([false, true, true], true)⟩,
  ⟨some [true, false, true, false], .pick (.s [false, true, true]) (.s [false, false, true, false]) (.c (.bool false)), none⟩,
  ⟨some [true], .move (.s [true, false, true, false]), none⟩])
def c53 : CFunc := { params := [[]], results := [.slot [true]], shared := false, body := (.seq c53_o0
 (.seq c53_o1
 .ret)) }
-- numnah/sample.ways
-- c54_l0: live slots [1, 2, 3, 6]
-- c54_l1: live slots [1, 6]
def c54_b0 : CCode := (.seq (.seq (.ops [
  ⟨some [true, true, true], .move (.s [false, false]), none⟩,
  ⟨some [false, false, false, false], .move (.s [true]), none⟩,
  ⟨some [true, false, false, false], .bin .leq (.s [true, true, true]) (.s [false, false, false, false]), none⟩])
 (.cond (.s [true, false, false, false]) .skip (.exit 2)))
 (.seq (.block 3 (.draw 0 [
  ⟨some [false, false, true, false], .move (.s [false]), none⟩,
  ⟨some [true, false, true, false], .move (.s [true]), none⟩,
  ⟨some [false, true, true, false], .move (.s [false, false]), none⟩,
  ⟨some [true, true, true, false], .move (.s [false]), none⟩,
  ⟨some [false, false, false, true], .move (.s [true]), none⟩,
  ⟨some [true, false, false, true], .bin .sub (.s [false, false, false, true]) (.c (.int .i64 1)), none⟩,
  ⟨some [false, true, false, true], .move (.s [false, false]), none⟩,
  ⟨some [true, true, false, true], .bin .sub (.s [false, true, false, true]) (.c (.int .i64 1)), none⟩,
  ⟨some [false, false, true, true], .nilCheck (.s [true, true, true, false]), none⟩,
  ⟨some [true, false, true, true], .idxArr 37 37 (.s [false, false, true, true]) (.s [true, false, false, true]), none⟩,
  ⟨some [false, true, true, true], .idxArr 37 1 (.s [true, false, true, true]) (.s [true, true, false, true]), none⟩,
  ⟨some [true, true, true, true], .load none (.s [false, true, true, true]), none⟩,
  ⟨some [false, false, false, false, false], .move (.s [false]), none⟩,
  ⟨some [true, false, false, false, false], .move (.s [true]), none⟩,
  ⟨some [false, true, false, false, false], .bin .sub (.s [true, false, false, false, false]) (.c (.int .i64 1)), none⟩,
  ⟨some [true, true, false, false, false], .move (.s [false, false]), none⟩,
  ⟨some [false, false, true, false, false], .nilCheck (.s [false, false, false, false, false]), none⟩,
  ⟨some [true, false, true, false, false], .idxArr 37 37 (.s [false, false, true, false, false]) (.s [false, true, false, false, false]), none⟩,
  ⟨some [false, true, true, false, false], .idxArr 37 1 (.s [true, false, true, false, false]) (.s [true, true, false, false, false]), none⟩,
  ⟨some [true, true, true, false, false], .load none (.s [false, true, true, false, false]), none⟩,
  ⟨some [false, false, false, true, false], .bin .add (.s [true, true, true, true]) (.s [true, true, true, false, false]), none⟩,
  ⟨some [true, false, false, true, false], .nilCheck (.s [false, false, true, false]), none⟩,
  ⟨some [false, true, false, true, false], .idxArr 37 37 (.s [true, false, false, true, false]) (.s [true, false, true, false]), none⟩,
  ⟨some [true, true, false, true, false], .idxArr 37 1 (.s [false, true, false, true, false]) (.s [false, true, true, false]), none⟩,
  ⟨none, .store 1 (.s [true, true, false, true, false]) (.s [false, false, false, true, false]), none⟩]
  [(11, 19)] [[], [], [], [], [], [4], [], [6], [3], [3, 4, 5, 8], [3, 4, 5, 6, 7, 8, 9], [3, 4, 5, 6, 7, 8, 9, 10], [], [], [13], [], [12], [12, 13, 14, 16], [12, 13, 14, 15, 16, 17], [12, 13, 14, 15, 16, 17, 18], [3, 4, 5, 6, 7, 8, 9, 10, 11, 12, 13, 14, 15, 16, 17, 18, 19], [0], [0, 1, 21], [0, 1, 2, 3, 4, 5, 6, 7, 8, 9, 10, 11, 12, 13, 14, 15, 16, 17, 18, 19, 20, 21, 22], [0, 1, 2, 3, 4, 5, 6, 7, 8, 9, 10, 11, 12, 13, 14, 15, 16, 17, 18, 19, 20, 21, 22, 23]]))
 (.ops [
  ⟨some [false, true, false, false], .move (.s [false, false]), none⟩,
  ⟨some [true, true, false, false], .bin .add (.s [false, true, false, false]) (.c (.int .i64 1)), none⟩,
  ⟨some [false, false], .move (.s [true, true, false, false]), none⟩])))
def c54_l0 : CCode := .loop [[false], [true], [false, false], [true, true]] c54_b0
def c54_b1 : CCode := (.seq (.ops [
  ⟨some [false, false, false], .bin .lss (.s [true, true]) (.c (.int .i64 37)), none⟩])
 (.seq (.cond (.s [false, false, false]) .skip (.exit 0))
 (.seq (.block 1 (.seq (.ops [
  ⟨some [true, false, false], .move (.s [true, true]), none⟩,
  ⟨some [true], .move (.s [true, false, false]), none⟩])
 (.seq (.ops [
  ⟨some [false, true, false], .move (.s [false]), none⟩,
  ⟨some [true, true, false], .move (.s [true]), none⟩,
  ⟨some [false, false, true], .nilCheck (.s [false, true, false]), none⟩,
  ⟨some [true, false, true], .idxArr 37 37 (.s [false, false, true]) (.s [true, true, false]), none⟩,
  ⟨some [false, true, true], .idxArr 37 1 (.s [true, false, true]) (.c (.int .i64 0)), none⟩,
  ⟨none, .store 1 (.s [false, true, true]) (.c (.int .i64 1)), none⟩])
 (.seq (.ops [
  ⟨some [false, false], .move (.c (.int .i64 1)), none⟩])
 (.block 2 c54_l0)))))
 (.ops [
  ⟨some [false, false, true, true, false], .bin .add (.s [true, true]) (.c (.int .i64 1)), none⟩,
  ⟨some [true, true], .move (.s [false, false, true, true, false]), none⟩]))))
def c54_l1 : CCode := .loop [[false], [true, true]] c54_b1
def c54 : CFunc := { params := [], results := [.slot []], shared := false, body := (.seq (.ops [
  ⟨some [], .move (.c (.nilp)), none⟩])
 (.seq (.ops [
  ⟨some [true, false], .build (List.replicate 1369 (.int .i64 0)) [], none⟩,
  ⟨some [false, true], .box none (.s [true, false]), none⟩,
  ⟨some [false], .move (.s [false, true]), none⟩])
 (.seq (.seq (.ops [
  ⟨some [true, true], .move (.c (.int .i64 0)), none⟩])
 (.block 0 c54_l1))
 (.seq (.ops [
  ⟨some [true, false, true, true, false], .move (.s [false]), none⟩,
  ⟨some [], .move (.s [true, false, true, true, false]), none⟩])
 .ret)))) }
-- numnah/sample.compare
-- c55_o0: 0=[] 1=[f]
-- c55_o1: 2=[t] 3=[f, f]
-- c55_o2: 2=[t] 3=[f, f]
-- c55_o3: 2=[t] 3=[f, f] 5=[f, t] 6=[t, t]
-- c55_o4: 2=[t] 3=[f, f] 5=[f, t] 6=[t, t]
-- c55_o5: 5=[f, t] 6=[t, t]
-- c55_o6: 2=[t] 3=[f, f]
-- c55_o7: 2=[t] 3=[f, f]
-- c55_o8: 2=[t] 3=[f, f]
-- c55_l0: live slots [2, 3]
-- c55_o9: 
def c55_o0 : CCode := .trim [[], [false]] (.ops [
  ⟨some [true], .box none (.s []), none⟩,
  ⟨some [false, false], .box none (.s [false]), none⟩,
  ⟨some [true, false], .move (.c (.int .i64 0)), none⟩])
def c55_o1 : CCode := .trim [[true], [false, false]] (.ops [
  ⟨some [false, false, false], .load (some 2) (.s [true]), none⟩,
  ⟨some [true, false, false], .load (some 2) (.s [false, false]), none⟩,
  ⟨some [false, true, false], .eqa [.i .i64, .i .i64] true (.s [false, false, false]) (.s [true, false, false]), none⟩])
def c55_o2 : CCode := .trim [[true], [false, false]] (.draw 0 [
  ⟨some [true, true, false], .fieldAddr 0 (.s [true]), none⟩,
  ⟨some [false, false, true], .load none (.s [true, true, false]), none⟩,
  ⟨some [true, false, true], .fieldAddr 1 (.s [true]), none⟩,
  ⟨some [false, true, true], .load none (.s [true, false, true]), none⟩,
  ⟨some [true, true, true], .bin .quo (.s [false, false, true]) (.s [false, true, true]), none⟩,
  ⟨some [false, false, false, false], .fieldAddr 0 (.s [false, false]), none⟩,
  ⟨some [true, false, false, false], .load none (.s [false, false, false, false]), none⟩,
  ⟨some [false, true, false, false], .fieldAddr 1 (.s [false, false]), none⟩,
  ⟨some [true, true, false, false], .load none (.s [false, true, false, false]), none⟩,
  ⟨some [false, false, true, false], .bin .quo (.s [true, false, false, false]) (.s [true, true, false, false]), none⟩,
  ⟨some [false, true], .move (.s [true, true, true]), none⟩,
  ⟨some [true, true], .move (.s [false, false, true, false]), none⟩]
  [(1, 3), (1, 6), (3, 6), (1, 8), (3, 8), (6, 8)] [[], [0], [], [2], [0, 1, 2, 3], [], [5], [], [7], [5, 6, 7, 8], [0, 1, 2, 3, 4], [0, 1, 2, 3, 4, 5, 6, 7, 8, 9, 10]])
def c55_o3 : CCode := .trim [[true], [false, false], [false, true], [true, true]] (.draw 0 [
  ⟨some [true, false, true, false], .fieldAddr 0 (.s [true]), none⟩,
  ⟨some [false, true, true, false], .load none (.s [true, false, true, false]), none⟩,
  ⟨some [true, true, true, false], .fieldAddr 1 (.s [true]), none⟩,
  ⟨some [false, false, false, true], .load none (.s [true, true, true, false]), none⟩,
  ⟨some [true, false, false, true], .bin .rem (.s [false, true, true, false]) (.s [false, false, false, true]), none⟩,
  ⟨some [false, true, false, true], .fieldAddr 0 (.s [false, false]), none⟩,
  ⟨some [true, true, false, true], .load none (.s [false, true, false, true]), none⟩,
  ⟨some [false, false, true, true], .fieldAddr 1 (.s [false, false]), none⟩,
  ⟨some [true, false, true, true], .load none (.s [false, false, true, true]), none⟩,
  ⟨some [false, true, true, true], .bin .rem (.s [true, true, false, true]) (.s [true, false, true, true]), none⟩,
  ⟨some [true, true, true, true], .fieldAddr 0 (.s [true]), none⟩,
  ⟨none, .store 1 (.s [true, true, true, true]) (.s [true, false, false, true]), none⟩,
  ⟨some [false, false, false, false, false], .fieldAddr 0 (.s [false, false]), none⟩,
  ⟨none, .store 1 (.s [false, false, false, false, false]) (.s [false, true, true, true]), none⟩]
  [(1, 3), (1, 6), (3, 6), (1, 8), (3, 8), (6, 8), (6, 11), (8, 11)] [[], [0], [], [2], [0, 1, 2, 3], [], [5], [], [7], [5, 6, 7, 8], [0, 1, 2, 3, 4], [0, 1, 2, 3, 4, 10], [0, 1, 2, 3, 4, 5, 6, 7, 8, 9, 10, 11], [0, 1, 2, 3, 4, 5, 6, 7, 8, 9, 10, 11, 12]])
def c55_o4 : CCode := .trim [[true], [false, false], [false, true], [true, true]] (.ops [
  ⟨some [false, true, false, false, false], .move (.s [false, true]), none⟩,
  ⟨some [true, true, false, false, false], .move (.s [true, true]), none⟩,
  ⟨some [false, false, true, false, false], .bin .neq (.s [false, true, false, false, false]) (.s [true, true, false, false, false]), none⟩,
  ⟨some [true, false, false, false, false], .move (.s [false, false, true, false, false]), none⟩])
def c55_o5 : CCode := .trim [[false, true], [true, true]] (.ops [
  ⟨some [true, false, true, false, false], .move (.s [false, true]), none⟩,
  ⟨some [false, true, true, false, false], .move (.s [true, true]), none⟩,
  ⟨some [true, true, true, false, false], .bin .sub (.s [true, false, true, false, false]) (.s [false, true, true, false, false]), none⟩,
  ⟨some [false, false, false, true, false], .minmax true (.c (.int .i64 (-1))) (.s [true, true, true, false, false]), none⟩,
  ⟨some [true, false, false, true, false], .minmax false (.c (.int .i64 1)) (.s [false, false, false, true, false]), none⟩,
  ⟨some [true, false], .move (.s [true, false, false, true, false]), none⟩])
def c55_o6 : CCode := .trim [[true], [false, false]] (.ops [
  ⟨some [true, true, false, true, false], .fieldAddr 0 (.s [true]), none⟩,
  ⟨some [false, false, true, true, false], .load none (.s [true, true, false, true, false]), none⟩,
  ⟨some [true, false, true, true, false], .bin .eql (.s [false, false, true, true, false]) (.c (.int .i64 0)), none⟩,
  ⟨some [false, true, true, true, false], .move (.s [true, false, true, true, false]), none⟩,
  ⟨some [true, true, true, true, false], .fieldAddr 0 (.s [false, false]), some ([false, true, true, true, false], false)⟩,
  ⟨some [false, false, false, false, true], .load none (.s [true, true, true, true, false]), some ([false, true, true, true, false], false)⟩,
  ⟨some [true, false, false, false, true], .bin .eql (.s [false, false, false, false, true]) (.c (.int .i64 0)), some ([false, true, true, true, false], false)⟩,
  ⟨some [false, true, false, false, true], .pick (.s [false, true, true, true, false]) (.c (.bool true)) (.s [true, false, false, false, true]), none⟩,
  ⟨some [false, true, false, true, false], .move (.s [false, true, false, false, true]), none⟩])
def c55_o7 : CCode := .trim [[true], [false, false]] (.ops [
  ⟨some [true, true, false, false, true], .fieldAddr 0 (.s [true]), none⟩,
  ⟨some [false, false, true, false, true], .load none (.s [true, true, false, false, true]), none⟩,
  ⟨some [true, false, true, false, true], .minmax true (.c (.int .i64 (-1))) (.s [false, false, true, false, true]), none⟩,
  ⟨some [false, true, true, false, true], .minmax false (.c (.int .i64 1)) (.s [true, false, true, false, true]), none⟩,
  ⟨some [true, true, true, false, true], .fieldAddr 0 (.s [false, false]), none⟩,
  ⟨some [false, false, false, true, true], .load none (.s [true, true, true, false, true]), none⟩,
  ⟨some [true, false, false, true, true], .minmax true (.c (.int .i64 (-1))) (.s [false, false, false, true, true]), none⟩,
  ⟨some [false, true, false, true, true], .minmax false (.c (.int .i64 1)) (.s [true, false, false, true, true]), none⟩,
  ⟨some [true, true, false, true, true], .bin .sub (.s [false, true, true, false, true]) (.s [false, true, false, true, true]), none⟩,
  ⟨some [true, false], .move (.s [true, true, false, true, true]), none⟩])
def c55_o8 : CCode := .trim [[true], [false, false]] (.ops [
  ⟨some [false, false, true, true, true], .fieldAddr 1 (.s [false, false]), none⟩,
  ⟨some [true, false, true, true, true], .load none (.s [false, false, true, true, true]), none⟩,
  ⟨some [false, true, true, true, true], .fieldAddr 0 (.s [false, false]), none⟩,
  ⟨some [true, true, true, true, true], .load none (.s [false, true, true, true, true]), none⟩,
  ⟨some [false, false, false, false, false, false], .build [.int .i64 0, .int .i64 0] [(0, 1, (.s [true, false, true, true, true])), (1, 1, (.s [true, true, true, true, true]))], none⟩,
  ⟨some [true, false, false, false, false, false], .fieldAddr 1 (.s [true]), none⟩,
  ⟨some [false, true, false, false, false, false], .load none (.s [true, false, false, false, false, false]), none⟩,
  ⟨some [true, true, false, false, false, false], .fieldAddr 0 (.s [true]), none⟩,
  ⟨some [false, false, true, false, false, false], .load none (.s [true, true, false, false, false, false]), none⟩,
  ⟨some [true, false, true, false, false, false], .build [.int .i64 0, .int .i64 0] [(0, 1, (.s [false, true, false, false, false, false])), (1, 1, (.s [false, false, true, false, false, false]))], none⟩,
  ⟨none, .store 2 (.s [true]) (.s [false, false, false, false, false, false]), none⟩,
  ⟨none, .store 2 (.s [false, false]) (.s [true, false, true, false, false, false]), none⟩])
def c55_b0 : CCode := (.seq (.seq c55_o1
 (.cond (.s [false, true, false]) .skip (.exit 0)))
 (.block 1 (.seq c55_o2
 (.seq c55_o3
 (.seq (.block 2 (.seq c55_o4
 (.cond (.s [true, false, false, false, false]) (.seq c55_o5
 .ret) (.seq c55_o6
 (.cond (.s [false, true, false, true, false]) (.seq c55_o7
 .ret) .skip)))))
 c55_o8)))))
def c55_l0 : CCode := .loop [[true], [false, false]] c55_b0
def c55_o9 : CCode := .trim [] (.ops [
  ⟨some [true, false], .move (.c (.int .i64 0)), none⟩])
def c55 : CFunc := { params := [[], [false]], results := [.slot [true, false]], shared := false, body := (.seq c55_o0
 (.seq (.block 0 c55_l0)
 (.seq c55_o9
 .ret))) }
-- numnah/sample.frac
def c56 : CFunc := { params := [[], [false]], results := [.cell [true, false] (some 2)], shared := false, body := (.seq (.ops [
  ⟨some [true, false], .alloc none [.int .i64 0, .int .i64 0], none⟩])
 (.seq (.ops [
  ⟨some [true, true], .move (.s []), none⟩,
  ⟨some [false, false, false], .move (.s [false]), none⟩,
  ⟨some [true, false, false], .call false (.c (.func 68 [])) [(.s [true, true]), (.s [false, false, false])], none⟩,
  ⟨some [false, true], .move (.s [true, false, false]), none⟩])
 (.seq (.draw 0 [
  ⟨some [false, true, false], .move (.s []), none⟩,
  ⟨some [true, true, false], .move (.s [false, true]), none⟩,
  ⟨some [false, false, true], .bin .quo (.s [false, true, false]) (.s [true, true, false]), none⟩,
  ⟨some [true, false, true], .move (.s [false]), none⟩,
  ⟨some [false, true, true], .move (.s [false, true]), none⟩,
  ⟨some [true, true, true], .bin .quo (.s [true, false, true]) (.s [false, true, true]), none⟩,
  ⟨some [false, false, false, false], .build [.int .i64 0, .int .i64 0] [(0, 1, (.s [false, false, true])), (1, 1, (.s [true, true, true]))], none⟩,
  ⟨none, .store 2 (.s [true, false]) (.s [false, false, false, false]), none⟩]
  [] [[], [], [0, 1], [], [], [3, 4], [0, 1, 2, 3, 4, 5], [0, 1, 2, 3, 4, 5, 6]])
 .ret))) }
-- (*numnah/sample.triangle).single
-- c57_l0: live slots [0, 1, 2, 3, 11, 14, 15]
def c57_b0 : CCode := (.seq (.ops [
  ⟨some [true, false, false, false], .bin .lss (.s [false, false, false, false]) (.s [true, true, true]), none⟩])
 (.seq (.cond (.s [true, false, false, false]) .skip (.exit 0))
 (.seq (.block 1 (.seq (.ops [
  ⟨some [false, true, false, false], .move (.s [false, false, false, false]), none⟩,
  ⟨some [true, false, true], .move (.s [false, true, false, false]), none⟩])
 (.ops [
  ⟨some [true, true, false, false], .move (.s [false, false, true]), none⟩,
  ⟨some [false, false, true, false], .move (.s []), none⟩,
  ⟨some [true, false, true, false], .move (.s [false, false]), none⟩,
  ⟨some [false, true, true, false], .move (.s [true, false, true]), none⟩,
  ⟨some [true, true, true, false], .call false (.c (.func 58 [])) [(.s [false, false, true, false]), (.s [true, false, true, false]), (.s [false, true, true, false])], none⟩,
  ⟨some [false, false, false, true], .move (.s []), none⟩,
  ⟨some [true, false, false, true], .move (.s [false]), none⟩,
  ⟨some [false, true, false, true], .move (.s [false, false]), none⟩,
  ⟨some [true, true, false, true], .bin .sub (.s [true, false, false, true]) (.s [false, true, false, true]), none⟩,
  ⟨some [false, false, true, true], .move (.s [true]), none⟩,
  ⟨some [true, false, true, true], .move (.s [true, false, true]), none⟩,
  ⟨some [false, true, true, true], .bin .sub (.s [false, false, true, true]) (.s [true, false, true, true]), none⟩,
  ⟨some [true, true, true, true], .call false (.c (.func 58 [])) [(.s [false, false, false, true]), (.s [true, true, false, true]), (.s [false, true, true, true])], none⟩,
  ⟨some [false, false, false, false, false], .bin .mul (.s [true, true, true, false]) (.s [true, true, true, true]), none⟩,
  ⟨some [true, false, false, false, false], .bin .add (.s [true, true, false, false]) (.s [false, false, false, false, false]), none⟩,
  ⟨some [false, false, true], .move (.s [true, false, false, false, false]), none⟩])))
 (.ops [
  ⟨some [false, true, false, false, false], .bin .add (.s [false, false, false, false]) (.c (.int .i64 1)), none⟩,
  ⟨some [false, false, false, false], .move (.s [false, true, false, false, false]), none⟩]))))
def c57_l0 : CCode := .loop [[], [false], [true], [false, false], [false, false, true], [true, true, true], [false, false, false, false]] c57_b0
def c57 : CFunc := { params := [[], [false], [true], [false, false], [true, false]], results := [.slot [true, true, false]], shared := false, body := (.seq (.ops [
  ⟨some [true, true, false], .move (.c (.int .i64 0)), none⟩])
 (.seq (.ops [
  ⟨some [false, false, true], .move (.c (.int .i64 0)), none⟩])
 (.seq (.seq (.ops [
  ⟨some [false, true, true], .move (.s [true, false]), none⟩,
  ⟨some [true, true, true], .bin .add (.s [false, true, true]) (.c (.int .i64 1)), none⟩,
  ⟨some [false, false, false, false], .move (.c (.int .i64 0)), none⟩])
 (.block 0 c57_l0))
 (.seq (.ops [
  ⟨some [true, true, false, false, false], .move (.s [false, false, true]), none⟩,
  ⟨some [true, true, false], .move (.s [true, true, false, false, false]), none⟩])
 .ret)))) }
-- (*numnah/sample.triangle).of
def c58 : CFunc := { params := [[], [false], [true]], results := [.slot [true, true]], shared := false, body := (.seq (.ops [
  ⟨some [true, true], .move (.c (.int .i64 0)), none⟩])
 (.seq (.seq (.ops [
  ⟨some [false, false, false], .move (.s [true]), none⟩,
  ⟨some [true, false, false], .move (.s [false]), none⟩,
  ⟨some [false, true, false], .call false (.c (.func 67 [])) [(.s [false, false, false]), (.c (.int .i64 0)), (.s [true, false, false])], none⟩,
  ⟨some [true, true, false], .un .not (.s [false, true, false]), none⟩])
 (.cond (.s [true, true, false]) (.seq (.ops [
  ⟨some [true, true], .move (.c (.int .i64 0)), none⟩])
 .ret) .skip))
 (.seq (.ops [
  ⟨some [false, false, true], .move (.s []), none⟩,
  ⟨some [true, false, true], .move (.s [false]), none⟩,
  ⟨some [false, true, true], .move (.s [true]), none⟩,
  ⟨some [true, true, true], .nilCheck (.s [false, false, true]), none⟩,
  ⟨some [false, false, false, false], .idxArr 37 37 (.s [true, true, true]) (.s [true, false, true]), none⟩,
  ⟨some [true, false, false, false], .idxArr 37 1 (.s [false, false, false, false]) (.s [false, true, true]), none⟩,
  ⟨some [false, true, false, false], .load none (.s [true, false, false, false]), none⟩,
  ⟨some [true, true], .move (.s [false, true, false, false]), none⟩])
 .ret))) }
-- numnah/numnahref05.gcd
-- c59_l0: live slots [0, 1]
def c59_b0 : CCode := (.seq (.seq (.ops [
  ⟨some [true, true], .move (.s [false]), none⟩,
  ⟨some [false, false, false], .bin .gtr (.s [true, true]) (.c (.int .i64 0)), none⟩])
 (.cond (.s [false, false, false]) .skip (.exit 0)))
 (.block 1 (.seq (.ops [
  ⟨some [true, false, false], .move (.s []), none⟩,
  ⟨some [false, true, false], .move (.s [false]), none⟩,
  ⟨some [true, true, false], .bin .rem (.s [true, false, false]) (.s [false, true, false]), none⟩,
  ⟨some [false, true], .move (.s [true, true, false]), none⟩])
 (.seq (.ops [
  ⟨some [false, false, true], .move (.s [false]), none⟩,
  ⟨some [], .move (.s [false, false, true]), none⟩])
 (.ops [
  ⟨some [true, false, true], .move (.s [false, true]), none⟩,
  ⟨some [false], .move (.s [true, false, true]), none⟩])))))
def c59_l0 : CCode := .loop [[], [false]] c59_b0
def c59 : CFunc := { params := [[], [false]], results := [.slot [true, false]], shared := false, body := (.seq (.ops [
  ⟨some [true, false], .move (.c (.int .i64 0)), none⟩])
 (.seq (.block 0 c59_l0)
 (.seq (.ops [
  ⟨some [false, true, true], .move (.s []), none⟩,
  ⟨some [true, false], .move (.s [false, true, true]), none⟩])
 .ret))) }
-- numnah/sample.isSingle
def c60 : CFunc := { params := [[], [false], [true]], results := [.slot [true, true]], shared := false, body := (.seq (.ops [
  ⟨some [true, true], .move (.c (.bool false)), none⟩])
 (.seq (.ops [
  ⟨some [false, false, false], .move (.s [false]), none⟩,
  ⟨some [true, false, false], .move (.s []), none⟩,
  ⟨some [false, true, false], .call false (.c (.func 67 [])) [(.s [false, false, false]), (.c (.int .i64 1)), (.s [true, false, false])], none⟩,
  ⟨some [true, true, false], .move (.s [false, true, false]), none⟩,
  ⟨some [false, false, true], .move (.s [true]), some ([true, true, false], true)⟩,
  ⟨some [true, false, true], .move (.s [false]), some ([true, true, false], true)⟩,
  ⟨some [false, true, true], .bin .sub (.s [true, false, true]) (.c (.int .i64 1)), some ([true, true, false], true)⟩,
  ⟨some [true, true, true], .call false (.c (.func 67 [])) [(.s [false, false, true]), (.c (.int .i64 0)), (.s [false, true, true])], some ([true, true, false], true)⟩,
  ⟨some [false, false, false, false], .pick (.s [true, true, false]) (.s [true, true, true]) (.c (.bool false)), none⟩,
  ⟨some [true, true], .move (.s [false, false, false, false]), none⟩])
 .ret)) }
-- slices.Repeat[[]int,int]
-- c61_o0: 0=[] 1=[f]
-- c61_o1: 0=[] 1=[f]
-- c61_o2: 0=[] 1=[f]
-- c61_o3: 0=[] 1=[f]
-- c61_o4: 0=[] 5=[f, t] 6=[t, t]
-- c61_o5: 0=[] 6=[t, t]
-- c61_o6: 0=[] 6=[t, t]
-- c61_o7: 0=[] 7=[f, f, f]
-- c61_o8: 7=[f, f, f] 8=[t, f, f]
-- c61_o9: 7=[f, f, f] 8=[t, f, f]
-- c61_l0: live slots [7, 8]
-- c61_o10: 7=[f, f, f]
def c61_o0 : CCode := .trim [[], [false]] (.ops [
  ⟨some [true, false], .move (.c (.nils)), none⟩])
def c61_o1 : CCode := .trim [[], [false]] (.ops [
  ⟨some [false, true, false], .move (.s [false]), none⟩,
  ⟨some [true, true, false], .bin .lss (.s [false, true, false]) (.c (.int .i64 0)), none⟩])
def c61_o2 : CCode := .trim [[], [false]] (.ops [
  ⟨some [false, false, true], .iface 9 (.c (.str [99, 97, 110, 110, 111, 116, 32, 98, 101, 32, 110, 101, 103, 97, 116, 105, 118, 101])), none⟩,
  ⟨none, .fail, none⟩])
def c61_o3 : CCode := .trim [[], [false]] (.ops [
  ⟨some [false, true, true], .move (.s []), none⟩,
  ⟨some [true, true, true], .len 1 (.s [false, true, true]), none⟩,
  ⟨some [false, false, false, false], .conv .u64 (.s [true, true, true]), none⟩,
  ⟨some [true, false, false, false], .move (.s [false]), none⟩,
  ⟨some [false, true, false, false], .conv .u64 (.s [true, false, false, false]), none⟩,
  ⟨some [true, true, false, false], .call false (.c (.func 69 [])) [(.s [false, false, false, false]), (.s [false, true, false, false])], none⟩,
  ⟨some [true, false, true], .move (.s [true, true, false, false]), none⟩,
  ⟨some [false, false, true, false], .extract 0 (.s [true, false, true]), none⟩,
  ⟨some [true, false, true, false], .extract 1 (.s [true, false, true]), none⟩,
  ⟨some [false, true], .move (.s [false, false, true, false]), none⟩,
  ⟨some [true, true], .move (.s [true, false, true, false]), none⟩])
def c61_o4 : CCode := .trim [[], [false, true], [true, true]] (.ops [
  ⟨some [false, true, true, false], .move (.s [false, true]), none⟩,
  ⟨some [true, true, true, false], .bin .gtr (.s [false, true, true, false]) (.c (.int .u64 0)), none⟩,
  ⟨some [false, false, false, true], .move (.s [true, true, true, false]), none⟩,
  ⟨some [true, false, false, true], .move (.s [true, true]), some ([false, false, false, true], false)⟩,
  ⟨some [false, true, false, true], .bin .gtr (.s [true, false, false, true]) (.c (.int .u64 9223372036854775807)), some ([false, false, false, true], false)⟩,
  ⟨some [true, true, false, true], .pick (.s [false, false, false, true]) (.c (.bool true)) (.s [false, true, false, true]), none⟩])
def c61_o5 : CCode := .trim [[], [true, true]] (.ops [
  ⟨some [false, false, true, true], .iface 9 (.c (.str [116, 104, 101, 32, 114, 101, 115, 117, 108, 116, 32, 111, 102, 32, 40, 108, 101, 110, 40, 120, 41, 32, 42, 32, 99, 111, 117, 110, 116, 41, 32, 111, 118, 101, 114, 102, 108, 111, 119, 115])), none⟩,
  ⟨none, .fail, none⟩])
def c61_o6 : CCode := .trim [[], [true, true]] (.ops [
  ⟨some [true, false, true, true], .move (.s [true, true]), none⟩,
  ⟨some [false, true, true, true], .conv .i64 (.s [true, false, true, true]), none⟩,
  ⟨some [true, true, true, true], .makeSlice none 1 8 [.int .i64 0] (.s [false, true, true, true]), none⟩,
  ⟨some [false, false, false], .move (.s [true, true, true, true]), none⟩])
def c61_o7 : CCode := .trim [[], [false, false, false]] (.ops [
  ⟨some [false, false, false, false, false], .move (.s [false, false, false]), none⟩,
  ⟨some [true, false, false, false, false], .move (.s []), none⟩,
  ⟨some [false, true, false, false, false], .copy 1 (.s [false, false, false, false, false]) (.s [true, false, false, false, false]), none⟩,
  ⟨some [true, false, false], .move (.s [false, true, false, false, false]), none⟩])
def c61_o8 : CCode := .trim [[false, false, false], [true, false, false]] (.ops [
  ⟨some [true, true, false, false, false], .move (.s [true, false, false]), none⟩,
  ⟨some [false, false, true, false, false], .move (.s [false, false, false]), none⟩,
  ⟨some [true, false, true, false, false], .len 1 (.s [false, false, true, false, false]), none⟩,
  ⟨some [false, true, true, false, false], .bin .lss (.s [true, true, false, false, false]) (.s [true, false, true, false, false]), none⟩])
def c61_o9 : CCode := .trim [[false, false, false], [true, false, false]] (.draw 0 [
  ⟨some [true, true, true, false, false], .move (.s [true, false, false]), none⟩,
  ⟨some [false, false, false, true, false], .move (.s [false, false, false]), none⟩,
  ⟨some [true, false, false, true, false], .move (.s [true, false, false]), none⟩,
  ⟨some [false, true, false, true, false], .slSl 1 (.s [false, false, false, true, false]) (some (.s [true, false, false, true, false])) none, none⟩,
  ⟨some [true, true, false, true, false], .move (.s [false, false, false]), none⟩,
  ⟨some [false, false, true, true, false], .move (.s [true, false, false]), none⟩,
  ⟨some [true, false, true, true, false], .slSl 1 (.s [true, true, false, true, false]) none (some (.s [false, false, true, true, false])), none⟩,
  ⟨some [false, true, true, true, false], .copy 1 (.s [false, true, false, true, false]) (.s [true, false, true, true, false]), none⟩,
  ⟨some [true, true, true, true, false], .bin .add (.s [true, true, true, false, false]) (.s [false, true, true, true, false]), none⟩,
  ⟨some [true, false, false], .move (.s [true, true, true, true, false]), none⟩]
  [(3, 6)] [[], [], [], [1, 2], [], [], [4, 5], [1, 2, 3, 4, 5, 6], [0, 1, 2, 3, 4, 5, 6, 7], [0, 1, 2, 3, 4, 5, 6, 7, 8]])
def c61_b0 : CCode := (.seq (.seq c61_o8
 (.cond (.s [false, true, true, false, false]) .skip (.exit 0)))
 (.block 1 c61_o9))
def c61_l0 : CCode := .loop [[false, false, false], [true, false, false]] c61_b0
def c61_o10 : CCode := .trim [[false, false, false]] (.ops [
  ⟨some [false, false, false, false, true], .move (.s [false, false, false]), none⟩,
  ⟨some [true, false], .move (.s [false, false, false, false, true]), none⟩])
def c61 : CFunc := { params := [[], [false]], results := [.slot [true, false]], shared := false, body := (.seq c61_o0
 (.seq (.seq c61_o1
 (.cond (.s [true, true, false]) c61_o2 .skip))
 (.seq c61_o3
 (.seq (.seq c61_o4
 (.cond (.s [true, true, false, true]) c61_o5 .skip))
 (.seq c61_o6
 (.seq c61_o7
 (.seq (.block 0 c61_l0)
 (.seq c61_o10
 .ret)))))))) }
-- numnah/sample.isCourse
-- c62_o0: 0=[] 1=[f]
-- c62_o1: 0=[] 3=[f, f]
-- c62_o2: 0=[] 3=[f, f] 5=[f, t]
-- c62_o3: 
-- c62_o4: 3=[f, f] 5=[f, t]
-- c62_o5: 3=[f, f] 5=[f, t] 23=[f, f, f, t] 24=[t, f, f, t] 25=[f, t, f, t]
-- c62_o6: 3=[f, f] 5=[f, t] 23=[f, f, f, t] 24=[t, f, f, t] 25=[f, t, f, t]
-- c62_o7: 3=[f, f] 5=[f, t] 6=[t, t] 7=[f, f, f] 23=[f, f, f, t] 24=[t, f, f, t] 25=[f, t, f, t]
-- c62_o8: 
-- c62_o9: 3=[f, f] 5=[f, t] 23=[f, f, f, t] 24=[t, f, f, t] 25=[f, t, f, t]
-- c62_l0: live slots [3, 5, 23, 24, 25]
-- c62_o10: 3=[f, f] 5=[f, t]
def c62_o0 : CCode := .trim [[], [false]] (.ops [
  ⟨some [false, false], .box none (.s [false]), none⟩,
  ⟨some [true, false], .move (.c (.bool false)), none⟩])
def c62_o1 : CCode := .trim [[], [false, false]] (.ops [
  ⟨some [true, false, false], .fieldAddr 0 (.s [false, false]), none⟩,
  ⟨some [false, true, false], .load none (.s [true, false, false]), none⟩,
  ⟨some [true, true, false], .len 1 (.s [false, true, false]), none⟩,
  ⟨some [false, true], .move (.s [true, true, false]), none⟩])
def c62_o2 : CCode := .trim [[], [false, false], [false, true]] (.ops [
  ⟨some [false, false, true], .move (.s [false, true]), none⟩,
  ⟨some [true, false, true], .move (.s []), none⟩,
  ⟨some [false, true, true], .call false (.c (.func 67 [])) [(.s [false, false, true]), (.c (.int .i64 1)), (.s [true, false, true])], none⟩,
  ⟨some [true, true, true], .un .not (.s [false, true, true]), none⟩,
  ⟨some [false, false, false, false], .move (.s [true, true, true]), none⟩,
  ⟨some [true, false, false, false], .fieldAddr 1 (.s [false, false]), some ([false, false, false, false], false)⟩,
  ⟨some [false, true, false, false], .load none (.s [true, false, false, false]), some ([false, false, false, false], false)⟩,
  ⟨some [true, true, false, false], .len 1 (.s [false, true, false, false]), some ([false, false, false, false], false)⟩,
  ⟨some [false, false, true, false], .move (.s [false, true]), some ([false, false, false, false], false)⟩,
  ⟨some [true, false, true, false], .bin .neq (.s [true, true, false, false]) (.s [false, false, true, false]), some ([false, false, false, false], false)⟩,
  ⟨some [false, true, true, false], .pick (.s [false, false, false, false]) (.c (.bool true)) (.s [true, false, true, false]), none⟩])
def c62_o3 : CCode := .trim [] (.ops [
  ⟨some [true, false], .move (.c (.bool false)), none⟩])
def c62_o4 : CCode := .trim [[false, false], [false, true]] (.ops [
  ⟨some [true, true, true, false], .fieldAddr 0 (.s [false, false]), none⟩,
  ⟨some [false, false, false, true], .load none (.s [true, true, true, false]), none⟩,
  ⟨some [true, false, false, true], .len 1 (.s [false, false, false, true]), none⟩,
  ⟨some [false, true, false, true], .move (.c (.int .i64 0)), none⟩])
def c62_o5 : CCode := .trim [[false, false], [false, true], [false, false, false, true], [true, false, false, true], [false, true, false, true]] (.ops [
  ⟨some [true, true, false, true], .bin .lss (.s [false, true, false, true]) (.s [true, false, false, true]), none⟩])
def c62_o6 : CCode := .trim [[false, false], [false, true], [false, false, false, true], [true, false, false, true], [false, true, false, true]] (.ops [
  ⟨some [false, false, true, true], .move (.s [false, true, false, true]), none⟩,
  ⟨some [true, false, true, true], .idxSl 1 (.s [false, false, false, true]) (.s [false, true, false, true]), none⟩,
  ⟨some [false, true, true, true], .load none (.s [true, false, true, true]), none⟩,
  ⟨some [true, true], .move (.s [false, false, true, true]), none⟩,
  ⟨some [false, false, false], .move (.s [false, true, true, true]), none⟩])
def c62_o7 : CCode := .trim [[false, false], [false, true], [true, true], [false, false, false], [false, false, false, true], [true, false, false, true], [false, true, false, true]] (.ops [
  ⟨some [true, true, true, true], .move (.s [false, false, false]), none⟩,
  ⟨some [false, false, false, false, false], .move (.s [false, true]), none⟩,
  ⟨some [true, false, false, false, false], .bin .add (.s [false, false, false, false, false]) (.c (.int .i64 1)), none⟩,
  ⟨some [false, true, false, false, false], .call false (.c (.func 67 [])) [(.s [true, true, true, true]), (.c (.int .i64 (-1))), (.s [true, false, false, false, false])], none⟩,
  ⟨some [true, true, false, false, false], .un .not (.s [false, true, false, false, false]), none⟩,
  ⟨some [false, false, true, false, false], .move (.s [true, true, false, false, false]), none⟩,
  ⟨some [true, false, true, false, false], .fieldAddr 1 (.s [false, false]), some ([false, false, true, false, false], false)⟩,
  ⟨some [false, true, true, false, false], .load none (.s [true, false, true, false, false]), some ([false, false, true, false, false], false)⟩,
  ⟨some [true, true, true, false, false], .move (.s [true, true]), some ([false, false, true, false, false], false)⟩,
  ⟨some [false, false, false, true, false], .idxSl 1 (.s [false, true, true, false, false]) (.s [true, true, true, false, false]), some ([false, false, true, false, false], false)⟩,
  ⟨some [true, false, false, true, false], .load none (.s [false, false, false, true, false]), some ([false, false, true, false, false], false)⟩,
  ⟨some [false, true, false, true, false], .move (.s [false, false, false]), some ([false, false, true, false, false], false)⟩,
  ⟨some [true, true, false, true, false], .bin .add (.s [false, true, false, true, false]) (.c (.int .i64 1)), some ([false, false, true, false, false], false)⟩,
  ⟨some [false, false, true, true, false], .move (.s [false, true]), some ([false, false, true, false, false], false)⟩,
  ⟨some [true, false, true, true, false], .bin .add (.s [false, false, true, true, false]) (.c (.int .i64 1)), some ([false, false, true, false, false], false)⟩,
  ⟨some [false, true, true, true, false], .call false (.c (.func 67 [])) [(.s [true, false, false, true, false]), (.s [true, true, false, true, false]), (.s [true, false, true, true, false])], some ([false, false, true, false, false], false)⟩,
  ⟨some [true, true, true, true, false], .un .not (.s [false, true, true, true, false]), some ([false, false, true, false, false], false)⟩,
  ⟨some [false, false, false, false, true], .pick (.s [false, false, true, false, false]) (.c (.bool true)) (.s [true, true, true, true, false]), none⟩])
def c62_o8 : CCode := .trim [] (.ops [
  ⟨some [true, false], .move (.c (.bool false)), none⟩])
def c62_o9 : CCode := .trim [[false, false], [false, true], [false, false, false, true], [true, false, false, true], [false, true, false, true]] (.ops [
  ⟨some [true, false, false, false, true], .bin .add (.s [false, true, false, true]) (.c (.int .i64 1)), none⟩,
  ⟨some [false, true, false, true], .move (.s [true, false, false, false, true]), none⟩])
def c62_b0 : CCode := (.seq c62_o5
 (.seq (.cond (.s [true, true, false, true]) .skip (.exit 0))
 (.seq (.block 1 (.seq c62_o6
 (.seq c62_o7
 (.cond (.s [false, false, false, false, true]) (.seq c62_o8
 .ret) .skip))))
 c62_o9)))
def c62_l0 : CCode := .loop [[false, false], [false, true], [false, false, false, true], [true, false, false, true], [false, true, false, true]] c62_b0
def c62_o10 : CCode := .trim [[false, false], [false, true]] (.draw 0 [
  ⟨some [false, true, false, false, true], .fieldAddr 1 (.s [false, false]), none⟩,
  ⟨some [true, true, false, false, true], .load none (.s [false, true, false, false, true]), none⟩,
  ⟨some [false, false, true, false, true], .move (.s [false, true]), none⟩,
  ⟨some [true, false, true, false, true], .bin .sub (.s [false, false, true, false, true]) (.c (.int .i64 1)), none⟩,
  ⟨some [false, true, true, false, true], .idxSl 1 (.s [true, true, false, false, true]) (.s [true, false, true, false, true]), none⟩,
  ⟨some [true, true, true, false, true], .load none (.s [false, true, true, false, true]), none⟩,
  ⟨some [false, false, false, true, true], .fieldAddr 0 (.s [false, false]), none⟩,
  ⟨some [true, false, false, true, true], .load none (.s [false, false, false, true, true]), none⟩,
  ⟨some [false, true, false, true, true], .move (.s [false, true]), none⟩,
  ⟨some [true, true, false, true, true], .bin .sub (.s [false, true, false, true, true]) (.c (.int .i64 1)), none⟩,
  ⟨some [false, false, true, true, true], .idxSl 1 (.s [true, false, false, true, true]) (.s [true, true, false, true, true]), none⟩,
  ⟨some [true, false, true, true, true], .load none (.s [false, false, true, true, true]), none⟩,
  ⟨some [false, true, true, true, true], .bin .add (.s [true, false, true, true, true]) (.c (.int .i64 1)), none⟩,
  ⟨some [true, true, true, true, true], .bin .eql (.s [true, true, true, false, true]) (.s [false, true, true, true, true]), none⟩,
  ⟨some [true, false], .move (.s [true, true, true, true, true]), none⟩]
  [(1, 7), (5, 7), (1, 11), (5, 11)] [[], [0], [], [2], [0, 1, 2, 3], [0, 1, 2, 3, 4], [], [6], [], [8], [6, 7, 8, 9], [6, 7, 8, 9, 10], [6, 7, 8, 9, 10, 11], [0, 1, 2, 3, 4, 5, 6, 7, 8, 9, 10, 11, 12], [0, 1, 2, 3, 4, 5, 6, 7, 8, 9, 10, 11, 12, 13]])
def c62 : CFunc := { params := [[], [false]], results := [.slot [true, false]], shared := false, body := (.seq c62_o0
 (.seq c62_o1
 (.seq (.seq c62_o2
 (.cond (.s [false, true, true, false]) (.seq c62_o3
 .ret) .skip))
 (.seq (.seq c62_o4
 (.block 0 c62_l0))
 (.seq c62_o10
 .ret))))) }
-- (*numnah/sample.triangle).stops
-- c63_o0: 0=[] 1=[f] 2=[t] 3=[f, f]
-- c63_o1: 4=[t, f] 5=[f, t] 6=[t, t] 7=[f, f, f]
def c63_o0 : CCode := .trim [[], [false], [true], [false, false]] (.ops [
  ⟨some [true, false], .box none (.s []), none⟩,
  ⟨some [false, true], .box none (.s [false]), none⟩,
  ⟨some [true, true], .box none (.s [true]), none⟩,
  ⟨some [false, false, false], .box none (.s [false, false]), none⟩,
  ⟨some [true, false, false], .move (.c (.nilf)), none⟩])
def c63_o1 : CCode := .trim [[true, false], [false, true], [true, true], [false, false, false]] (.ops [
  ⟨some [false, true, false], .makeFunc 70 [(.s [false, false, false]), (.s [true, false]), (.s [false, true]), (.s [true, true])], none⟩,
  ⟨some [true, false, false], .move (.s [false, true, false]), none⟩])
def c63 : CFunc := { params := [[], [false], [true], [false, false]], results := [.slot [true, false, false]], shared := false, body := (.seq c63_o0
 (.seq c63_o1
 .ret)) }
-- numnah/numnahlaw05.list
-- c64_o0: 0=[]
-- c64_o1: 0=[]
-- c64_o2: 0=[] 3=[f, f]
def c64_o0 : CCode := .trim [[]] (.ops [
  ⟨some [true], .move (.c (.nils)), none⟩])
def c64_o1 : CCode := .trim [[]] (.ops [
  ⟨some [false, false], .move (.c (.nils)), none⟩])
def c64_o2 : CCode := .trim [[], [false, false]] (.ops [
  ⟨some [true, false], .move (.s [false, false]), none⟩,
  ⟨some [false, true], .move (.s []), none⟩,
  ⟨some [true, true], .move (.s []), none⟩,
  ⟨some [false, false, false], .len 1 (.s [true, true]), none⟩,
  ⟨some [true, false, false], .minmax false (.s [false, false, false]) (.c (.int .i64 37)), none⟩,
  ⟨some [false, true, false], .slSl 1 (.s [false, true]) none (some (.s [true, false, false])), none⟩,
  ⟨some [true, true, false], .append none 1 8 (.s [true, false]) (.s [false, true, false]), none⟩,
  ⟨some [true], .move (.s [true, true, false]), none⟩])
def c64 : CFunc := { params := [[]], results := [.slot [true]], shared := false, body := (.seq c64_o0
 (.seq c64_o1
 (.seq c64_o2
 .ret))) }
-- numnah/numnahref05.Decide
-- c65_o0: 0=[] 1=[f] 2=[t]
-- c65_o1: 1=[f] 2=[t] 3=[f, f]
-- c65_o2: 
-- c65_o3: 1=[f] 2=[t] 3=[f, f]
-- c65_o4: 
-- c65_o5: 
def c65_o0 : CCode := .trim [[], [false], [true]] (.ops [
  ⟨some [false, false], .box none (.s []), none⟩,
  ⟨some [true, true], .move (.c (.int .i64 0)), none⟩])
def c65_o1 : CCode := .trim [[false], [true], [false, false]] (.ops [
  ⟨some [false, false, false], .move (.s [true]), none⟩,
  ⟨some [true, false, false], .fieldAddr 0 (.s [false, false]), none⟩,
  ⟨some [false, true, false], .load none (.s [true, false, false]), none⟩,
  ⟨some [true, true, false], .move (.s [false]), none⟩,
  ⟨some [false, false, true], .bin .sub (.s [true, true, false]) (.c (.int .i64 1)), none⟩,
  ⟨some [true, false, true], .idxSl 1 (.s [false, true, false]) (.s [false, false, true]), none⟩,
  ⟨some [false, true, true], .load none (.s [true, false, true]), none⟩,
  ⟨some [true, true, true], .bin .leq (.s [false, false, false]) (.s [false, true, true]), none⟩])
def c65_o2 : CCode := .trim [] (.ops [
  ⟨some [true, true], .move (.c (.int .i64 1)), none⟩])
def c65_o3 : CCode := .trim [[false], [true], [false, false]] (.ops [
  ⟨some [false, false, false, false], .move (.s [true]), none⟩,
  ⟨some [true, false, false, false], .fieldAddr 1 (.s [false, false]), none⟩,
  ⟨some [false, true, false, false], .load none (.s [true, false, false, false]), none⟩,
  ⟨some [true, true, false, false], .move (.s [false]), none⟩,
  ⟨some [false, false, true, false], .bin .sub (.s [true, true, false, false]) (.c (.int .i64 1)), none⟩,
  ⟨some [true, false, true, false], .idxSl 1 (.s [false, true, false, false]) (.s [false, false, true, false]), none⟩,
  ⟨some [false, true, true, false], .load none (.s [true, false, true, false]), none⟩,
  ⟨some [true, true, true, false], .bin .geq (.s [false, false, false, false]) (.s [false, true, true, false]), none⟩])
def c65_o4 : CCode := .trim [] (.ops [
  ⟨some [true, true], .move (.c (.int .i64 (-1))), none⟩])
def c65_o5 : CCode := .trim [] (.ops [
  ⟨some [true, true], .move (.c (.int .i64 0)), none⟩])
def c65 : CFunc := { params := [[], [false], [true]], results := [.slot [true, true]], shared := false, body := (.seq c65_o0
 (.seq (.seq c65_o1
 (.cond (.s [true, true, true]) (.seq c65_o2
 .ret) .skip))
 (.seq (.seq c65_o3
 (.cond (.s [true, true, true, false]) (.seq c65_o4
 .ret) .skip))
 (.seq c65_o5
 .ret)))) }
-- numnah/sample.isDouble
-- c66_o0: 0=[] 1=[f]
-- c66_o1: 0=[] 3=[f, f]
-- c66_o2: 0=[] 5=[f, t] 6=[t, t] 7=[f, f, f] 8=[t, f, f] 9=[f, t, f]
def c66_o0 : CCode := .trim [[], [false]] (.ops [
  ⟨some [false, false], .box none (.s [false]), none⟩,
  ⟨some [true, false], .move (.c (.bool false)), none⟩])
def c66_o1 : CCode := .trim [[], [false, false]] (.draw 0 [
  ⟨some [true, true, false], .idxArr 5 1 (.s [false, false]) (.c (.int .i64 0)), none⟩,
  ⟨some [false, false, true], .load none (.s [true, true, false]), none⟩,
  ⟨some [true, false, true], .idxArr 5 1 (.s [false, false]) (.c (.int .i64 1)), none⟩,
  ⟨some [false, true, true], .load none (.s [true, false, true]), none⟩,
  ⟨some [true, true, true], .idxArr 5 1 (.s [false, false]) (.c (.int .i64 2)), none⟩,
  ⟨some [false, false, false, false], .load none (.s [true, true, true]), none⟩,
  ⟨some [true, false, false, false], .idxArr 5 1 (.s [false, false]) (.c (.int .i64 3)), none⟩,
  ⟨some [false, true, false, false], .load none (.s [true, false, false, false]), none⟩,
  ⟨some [true, true, false, false], .idxArr 5 1 (.s [false, false]) (.c (.int .i64 4)), none⟩,
  ⟨some [false, false, true, false], .load none (.s [true, true, false, false]), none⟩,
  ⟨some [false, true], .move (.s [false, false, true]), none⟩,
  ⟨some [true, true], .move (.s [false, true, true]), none⟩,
  ⟨some [false, false, false], .move (.s [false, false, false, false]), none⟩,
  ⟨some [true, false, false], .move (.s [false, true, false, false]), none⟩,
  ⟨some [false, true, false], .move (.s [false, false, true, false]), none⟩]
  [(1, 3), (1, 5), (3, 5), (1, 7), (3, 7), (5, 7), (1, 9), (3, 9), (5, 9), (7, 9)] [[], [0], [], [2], [], [4], [], [6], [], [8], [0, 1], [0, 1, 2, 3, 10], [0, 1, 2, 3, 4, 5, 10, 11], [0, 1, 2, 3, 4, 5, 6, 7, 10, 11, 12], [0, 1, 2, 3, 4, 5, 6, 7, 8, 9, 10, 11, 12, 13]])
def c66_o2 : CCode := .trim [[], [false, true], [true, true], [false, false, false], [true, false, false], [false, true, false]] (.ops [
  ⟨some [true, false, true, false], .move (.s [false, true]), none⟩,
  ⟨some [false, true, true, false], .move (.s []), none⟩,
  ⟨some [true, true, true, false], .call false (.c (.func 67 [])) [(.s [true, false, true, false]), (.c (.int .i64 1)), (.s [false, true, true, false])], none⟩,
  ⟨some [false, false, false, true], .move (.s [true, true, true, false]), none⟩,
  ⟨some [true, false, false, true], .move (.s [true, false, false]), some ([false, false, false, true], true)⟩,
  ⟨some [false, true, false, true], .move (.s []), some ([false, false, false, true], true)⟩,
  ⟨some [true, true, false, true], .move (.s [false, true]), some ([false, false, false, true], true)⟩,
  ⟨some [false, false, true, true], .bin .sub (.s [false, true, false, true]) (.s [true, true, false, true]), some ([false, false, false, true], true)⟩,
  ⟨some [true, false, true, true], .call false (.c (.func 67 [])) [(.s [true, false, false, true]), (.c (.int .i64 1)), (.s [false, false, true, true])], some ([false, false, false, true], true)⟩,
  ⟨some [false, true, true, true], .pick (.s [false, false, false, true]) (.s [true, false, true, true]) (.c (.bool false)), none⟩,
  ⟨some [true, true, true, true], .move (.s [false, true, true, true]), none⟩,
  ⟨some [false, false, false, false, false], .move (.s [true, true]), some ([true, true, true, true], true)⟩,
  ⟨some [true, false, false, false, false], .move (.s [false, true]), some ([true, true, true, true], true)⟩,
  ⟨some [false, true, false, false, false], .call false (.c (.func 67 [])) [(.s [false, false, false, false, false]), (.c (.int .i64 0)), (.s [true, false, false, false, false])], some ([true, true, true, true], true)⟩,
  ⟨some [true, true, false, false, false], .pick (.s [true, true, true, true]) (.s [false, true, false, false, false]) (.c (.bool false)), none⟩,
  ⟨some [false, false, true, false, false], .move (.s [true, true, false, false, false]), none⟩,
  ⟨some [true, false, true, false, false], .move (.s [false, false, false]), some ([false, false, true, false, false], true)⟩,
  ⟨some [false, true, true, false, false], .move (.s [true, true]), some ([false, false, true, false, false], true)⟩,
  ⟨some [true, true, true, false, false], .bin .add (.s [false, true, true, false, false]) (.c (.int .i64 2)), some ([false, false, true, false, false], true)⟩,
  ⟨some [false, false, false, true, false], .move (.s [false, true]), some ([false, false, true, false, false], true)⟩,
  ⟨some [true, false, false, true, false], .bin .add (.s [false, false, false, true, false]) (.c (.int .i64 1)), some ([false, false, true, false, false], true)⟩,
  ⟨some [false, true, false, true, false], .call false (.c (.func 67 [])) [(.s [true, false, true, false, false]), (.s [true, true, true, false, false]), (.s [true, false, false, true, false])], some ([false, false, true, false, false], true)⟩,
  ⟨some [true, true, false, true, false], .pick (.s [false, false, true, false, false]) (.s [false, true, false, true, false]) (.c (.bool false)), none⟩,
  ⟨some [false, false, true, true, false], .move (.s [true, true, false, true, false]), none⟩,
  ⟨some [true, false, true, true, false], .move (.s [false, true, false]), some ([false, false, true, true, false], true)⟩,
  ⟨some [false, true, true, true, false], .move (.s [false, false, false]), some ([false, false, true, true, false], true)⟩,
  ⟨some [true, true, true, true, false], .bin .sub (.s [false, true, true, true, false]) (.c (.int .i64 1)), some ([false, false, true, true, false], true)⟩,
  ⟨some [false, false, false, false, true], .move (.s [false, true]), some ([false, false, true, true, false], true)⟩,
  ⟨some [true, false, false, false, true], .move (.s [true, false, false]), some ([false, false, true, true, false], true)⟩,
  ⟨some [false, true, false, false, true], .bin .add (.s [false, false, false, false, true]) (.s [true, false, false, false, true]), some ([false, false, true, true, false], true)⟩,
  ⟨some [true, true, false, false, true], .bin .sub (.s [false, true, false, false, true]) (.c (.int .i64 1)), some ([false, false, true, true, false], true)⟩,
  ⟨some [false, false, true, false, true], .call false (.c (.func 67 [])) [(.s [true, false, true, true, false]), (.s [true, true, true, true, false]), (.s [true, true, false, false, true])], some ([false, false, true, true, false], true)⟩,
  ⟨some [true, false, true, false, true], .pick (.s [false, false, true, true, false]) (.s [false, false, true, false, true]) (.c (.bool false)), none⟩,
  ⟨some [true, false], .move (.s [true, false, true, false, true]), none⟩])
def c66 : CFunc := { params := [[], [false]], results := [.slot [true, false]], shared := false, body := (.seq c66_o0
 (.seq c66_o1
 (.seq c66_o2
 .ret))) }
-- numnah/sample.within
def c67 : CFunc := { params := [[], [false], [true]], results := [.slot [true, true]], shared := false, body := (.seq (.ops [
  ⟨some [true, true], .move (.c (.bool false)), none⟩])
 (.seq (.ops [
  ⟨some [false, false, false], .move (.s []), none⟩,
  ⟨some [true, false, false], .move (.s [false]), none⟩,
  ⟨some [false, true, false], .bin .geq (.s [false, false, false]) (.s [true, false, false]), none⟩,
  ⟨some [true, true, false], .move (.s [false, true, false]), none⟩,
  ⟨some [false, false, true], .move (.s []), some ([true, true, false], true)⟩,
  ⟨some [true, false, true], .move (.s [true]), some ([true, true, false], true)⟩,
  ⟨some [false, true, true], .bin .leq (.s [false, false, true]) (.s [true, false, true]), some ([true, true, false], true)⟩,
  ⟨some [true, true, true], .pick (.s [true, true, false]) (.s [false, true, true]) (.c (.bool false)), none⟩,
  ⟨some [true, true], .move (.s [true, true, true]), none⟩])
 .ret)) }
-- numnah/sample.gcd
-- c68_l0: live slots [0, 1]
def c68_b0 : CCode := (.seq (.seq (.ops [
  ⟨some [false, true], .move (.s [false]), none⟩,
  ⟨some [true, true], .bin .gtr (.s [false, true]) (.c (.int .i64 0)), none⟩])
 (.cond (.s [true, true]) .skip (.exit 0)))
 (.block 1 (.draw 0 [
  ⟨some [false, false, false], .move (.s [false]), none⟩,
  ⟨some [true, false, false], .move (.s []), none⟩,
  ⟨some [false, true, false], .move (.s [false]), none⟩,
  ⟨some [true, true, false], .bin .rem (.s [true, false, false]) (.s [false, true, false]), none⟩,
  ⟨some [], .move (.s [false, false, false]), none⟩,
  ⟨some [false], .move (.s [true, true, false]), none⟩]
  [] [[], [], [], [1, 2], [0, 1], [0, 1, 2, 3, 4]])))
def c68_l0 : CCode := .loop [[], [false]] c68_b0
def c68 : CFunc := { params := [[], [false]], results := [.slot [true, false]], shared := false, body := (.seq (.ops [
  ⟨some [true, false], .move (.c (.int .i64 0)), none⟩])
 (.seq (.block 0 c68_l0)
 (.seq (.ops [
  ⟨some [false, false, true], .move (.s []), none⟩,
  ⟨some [true, false], .move (.s [false, false, true]), none⟩])
 .ret))) }
-- math/bits.Mul
-- c69_o0: 0=[] 1=[f]
-- c69_o1: 0=[] 1=[f]
-- c69_o2: 6=[t, t] 7=[f, f, f]
-- c69_o3: 0=[] 1=[f]
-- c69_o4: 8=[t, f, f] 9=[f, t, f]
def c69_o0 : CCode := .trim [[], [false]] (.ops [
  ⟨some [true, false], .move (.c (.int .u64 0)), none⟩,
  ⟨some [false, true], .move (.c (.int .u64 0)), none⟩])
def c69_o1 : CCode := .trim [[], [false]] (.ops [
  ⟨some [false, false, true], .move (.s []), none⟩,
  ⟨some [true, false, true], .conv .u32 (.s [false, false, true]), none⟩,
  ⟨some [false, true, true], .move (.s [false]), none⟩,
  ⟨some [true, true, true], .conv .u32 (.s [false, true, true]), none⟩,
  ⟨some [false, false, false, false], .call false (.c (.func 71 [])) [(.s [true, false, true]), (.s [true, true, true])], none⟩,
  ⟨some [true, true, false], .move (.s [false, false, false, false]), none⟩,
  ⟨some [true, false, false, false], .extract 0 (.s [true, true, false]), none⟩,
  ⟨some [false, true, false, false], .extract 1 (.s [true, true, false]), none⟩,
  ⟨some [true, true], .move (.s [true, false, false, false]), none⟩,
  ⟨some [false, false, false], .move (.s [false, true, false, false]), none⟩])
def c69_o2 : CCode := .trim [[true, true], [false, false, false]] (.ops [
  ⟨some [true, true, false, false], .move (.s [true, true]), none⟩,
  ⟨some [false, false, true, false], .conv .u64 (.s [true, true, false, false]), none⟩,
  ⟨some [true, false, true, false], .move (.s [false, false, false]), none⟩,
  ⟨some [false, true, true, false], .conv .u64 (.s [true, false, true, false]), none⟩,
  ⟨some [true, false], .move (.s [false, false, true, false]), none⟩,
  ⟨some [false, true], .move (.s [false, true, true, false]), none⟩])
def c69_o3 : CCode := .trim [[], [false]] (.ops [
  ⟨some [false, false, false, true], .move (.s []), none⟩,
  ⟨some [true, false, false, true], .move (.s [false]), none⟩,
  ⟨some [false, true, false, true], .call false (.c (.func 72 [])) [(.s [false, false, false, true]), (.s [true, false, false, true])], none⟩,
  ⟨some [true, true, true, false], .move (.s [false, true, false, true]), none⟩,
  ⟨some [true, true, false, true], .extract 0 (.s [true, true, true, false]), none⟩,
  ⟨some [false, false, true, true], .extract 1 (.s [true, true, true, false]), none⟩,
  ⟨some [true, false, false], .move (.s [true, true, false, true]), none⟩,
  ⟨some [false, true, false], .move (.s [false, false, true, true]), none⟩])
def c69_o4 : CCode := .trim [[true, false, false], [false, true, false]] (.ops [
  ⟨some [true, false, true, true], .move (.s [true, false, false]), none⟩,
  ⟨some [false, true, true, true], .move (.s [false, true, false]), none⟩,
  ⟨some [true, false], .move (.s [true, false, true, true]), none⟩,
  ⟨some [false, true], .move (.s [false, true, true, true]), none⟩])
def c69 : CFunc := { params := [[], [false]], results := [.slot [true, false], .slot [false, true]], shared := false, body := (.seq c69_o0
 (.seq (.cond (.c (.bool false)) (.seq c69_o1
 (.seq c69_o2
 .ret)) .skip)
 (.seq c69_o3
 (.seq c69_o4
 .ret)))) }
-- (*numnah/sample.triangle).stops$1
-- c70_o0: 0=[] 1=[f] 2=[t] 3=[f, f] 4=[t, f]
-- c70_o1: 0=[] 1=[f] 2=[t] 3=[f, f] 4=[t, f] 6=[t, t]
-- c70_o2: 0=[] 1=[f] 2=[t] 3=[f, f] 4=[t, f] 6=[t, t]
-- c70_o3: 0=[] 1=[f] 2=[t] 3=[f, f] 4=[t, f] 6=[t, t] 17=[f, t, f, f] 18=[t, t, f, f]
-- c70_o4: 0=[] 1=[f] 2=[t] 3=[f, f] 4=[t, f] 6=[t, t] 17=[f, t, f, f] 18=[t, t, f, f]
-- c70_o5: 0=[] 1=[f] 2=[t] 3=[f, f] 4=[t, f] 6=[t, t] 7=[f, f, f] 17=[f, t, f, f] 18=[t, t, f, f]
-- c70_o6: 0=[] 1=[f] 2=[t] 3=[f, f] 4=[t, f] 6=[t, t] 7=[f, f, f] 8=[t, f, f] 17=[f, t, f, f] 18=[t, t, f, f]
-- c70_o7: 0=[] 1=[f] 2=[t] 3=[f, f] 4=[t, f] 6=[t, t] 7=[f, f, f] 8=[t, f, f] 17=[f, t, f, f] 18=[t, t, f, f] 23=[f, f, f, t] 24=[t, f, f, t] 25=[f, t, f, t]
-- c70_o8: 0=[] 1=[f] 2=[t] 3=[f, f] 4=[t, f] 6=[t, t] 7=[f, f, f] 8=[t, f, f] 17=[f, t, f, f] 18=[t, t, f, f] 23=[f, f, f, t] 24=[t, f, f, t] 25=[f, t, f, t]
-- c70_o9: 0=[] 1=[f] 2=[t] 3=[f, f] 4=[t, f] 6=[t, t] 7=[f, f, f] 8=[t, f, f] 9=[f, t, f] 10=[t, t, f] 17=[f, t, f, f] 18=[t, t, f, f] 23=[f, f, f, t] 24=[t, f, f, t] 25=[f, t, f, t]
-- c70_o10: 0=[] 1=[f] 2=[t] 3=[f, f] 4=[t, f] 6=[t, t] 7=[f, f, f] 8=[t, f, f] 9=[f, t, f] 10=[t, t, f] 17=[f, t, f, f] 18=[t, t, f, f] 23=[f, f, f, t] 24=[t, f, f, t] 25=[f, t, f, t]
-- c70_o11: 0=[] 1=[f] 2=[t] 3=[f, f] 4=[t, f] 6=[t, t] 7=[f, f, f] 8=[t, f, f] 17=[f, t, f, f] 18=[t, t, f, f] 23=[f, f, f, t] 24=[t, f, f, t] 25=[f, t, f, t]
-- c70_l0: live slots [0, 1, 2, 3, 4, 6, 7, 8, 17, 18, 23, 24, 25]
-- c70_o12: 0=[] 1=[f] 2=[t] 3=[f, f] 4=[t, f] 6=[t, t] 7=[f, f, f] 8=[t, f, f] 17=[f, t, f, f] 18=[t, t, f, f]
-- c70_o13: 0=[] 1=[f] 2=[t] 3=[f, f] 4=[t, f] 6=[t, t] 7=[f, f, f] 8=[t, f, f] 11=[f, f, t] 17=[f, t, f, f] 18=[t, t, f, f]
-- c70_o14: 0=[] 1=[f] 2=[t] 3=[f, f] 4=[t, f] 6=[t, t] 7=[f, f, f] 8=[t, f, f] 11=[f, f, t] 17=[f, t, f, f] 18=[t, t, f, f] 47=[f, f, f, f, t] 48=[t, f, f, f, t]
-- c70_o15: 0=[] 1=[f] 2=[t] 3=[f, f] 4=[t, f] 6=[t, t] 7=[f, f, f] 8=[t, f, f] 11=[f, f, t] 17=[f, t, f, f] 18=[t, t, f, f] 47=[f, f, f, f, t] 48=[t, f, f, f, t]
-- c70_o16: 0=[] 1=[f] 2=[t] 3=[f, f] 4=[t, f] 6=[t, t] 7=[f, f, f] 8=[t, f, f] 11=[f, f, t] 12=[t, f, t] 17=[f, t, f, f] 18=[t, t, f, f] 47=[f, f, f, f, t] 48=[t, f, f, f, t]
-- c70_o17: 0=[] 1=[f] 2=[t] 3=[f, f] 4=[t, f] 6=[t, t] 7=[f, f, f] 8=[t, f, f] 11=[f, f, t] 12=[t, f, t] 13=[f, t, t] 17=[f, t, f, f] 18=[t, t, f, f] 47=[f, f, f, f, t] 48=[t, f, f, f, t]
-- c70_o18: 0=[] 1=[f] 2=[t] 3=[f, f] 4=[t, f] 6=[t, t] 7=[f, f, f] 8=[t, f, f] 11=[f, f, t] 12=[t, f, t] 13=[f, t, t] 17=[f, t, f, f] 18=[t, t, f, f] 47=[f, f, f, f, t] 48=[t, f, f, f, t]
-- c70_o19: 0=[] 1=[f] 2=[t] 3=[f, f] 4=[t, f] 6=[t, t] 7=[f, f, f] 8=[t, f, f] 11=[f, f, t] 12=[t, f, t] 17=[f, t, f, f] 18=[t, t, f, f] 47=[f, f, f, f, t] 48=[t, f, f, f, t]
-- c70_o20: 0=[] 1=[f] 2=[t] 3=[f, f] 4=[t, f] 6=[t, t] 7=[f, f, f] 8=[t, f, f] 11=[f, f, t] 12=[t, f, t] 13=[f, t, t] 17=[f, t, f, f] 18=[t, t, f, f] 47=[f, f, f, f, t] 48=[t, f, f, f, t]
-- c70_o21: 0=[] 1=[f] 2=[t] 3=[f, f] 4=[t, f] 6=[t, t] 7=[f, f, f] 8=[t, f, f] 11=[f, f, t] 12=[t, f, t] 13=[f, t, t] 17=[f, t, f, f] 18=[t, t, f, f] 47=[f, f, f, f, t] 48=[t, f, f, f, t]
-- c70_o22: 0=[] 1=[f] 2=[t] 3=[f, f] 4=[t, f] 6=[t, t] 7=[f, f, f] 8=[t, f, f] 11=[f, f, t] 12=[t, f, t] 17=[f, t, f, f] 18=[t, t, f, f] 47=[f, f, f, f, t] 48=[t, f, f, f, t]
-- c70_o23: 0=[] 1=[f] 2=[t] 3=[f, f] 4=[t, f] 6=[t, t] 7=[f, f, f] 8=[t, f, f] 11=[f, f, t] 17=[f, t, f, f] 18=[t, t, f, f] 47=[f, f, f, f, t] 48=[t, f, f, f, t]
-- c70_l1: live slots [0, 1, 2, 3, 4, 6, 7, 8, 11, 17, 18, 47, 48]
-- c70_o24: 0=[] 1=[f] 2=[t] 3=[f, f] 4=[t, f] 6=[t, t] 7=[f, f, f] 8=[t, f, f] 11=[f, f, t] 17=[f, t, f, f] 18=[t, t, f, f]
-- c70_o25: 0=[] 1=[f] 2=[t] 3=[f, f] 4=[t, f] 6=[t, t] 7=[f, f, f] 11=[f, f, t] 17=[f, t, f, f] 18=[t, t, f, f]
-- c70_o26: 0=[] 1=[f] 2=[t] 3=[f, f] 4=[t, f] 6=[t, t] 17=[f, t, f, f] 18=[t, t, f, f]
-- c70_l2: live slots [0, 1, 2, 3, 4, 6, 17, 18]
def c70_o0 : CCode := .trim [[], [false], [true], [false, false], [true, false]] (.ops [
  ⟨some [true, true], .alloc none (List.replicate 38 (.int .i64 0)), none⟩])
def c70_o1 : CCode := .trim [[], [false], [true], [false, false], [true, false], [true, true]] (.ops [
  ⟨some [true, true, true], .idxArr 38 1 (.s [true, true]) (.c (.int .i64 0)), none⟩,
  ⟨none, .store 1 (.s [true, true, true]) (.c (.int .i64 1)), none⟩])
def c70_o2 : CCode := .trim [[], [false], [true], [false, false], [true, false], [true, true]] (.ops [
  ⟨some [false, false, false, false], .fieldAddr 0 (.s [false]), none⟩,
  ⟨some [true, false, false, false], .load none (.s [false, false, false, false]), none⟩,
  ⟨some [false, true, false, false], .len 1 (.s [true, false, false, false]), none⟩,
  ⟨some [true, true, false, false], .move (.c (.int .i64 0)), none⟩])
def c70_o3 : CCode := .trim [[], [false], [true], [false, false], [true, false], [true, true], [false, true, false, false], [true, true, false, false]] (.ops [
  ⟨some [false, false, true, false], .bin .lss (.s [true, true, false, false]) (.s [false, true, false, false]), none⟩])
def c70_o4 : CCode := .trim [[], [false], [true], [false, false], [true, false], [true, true], [false, true, false, false], [true, true, false, false]] (.ops [
  ⟨some [true, false, true, false], .move (.s [true, true, false, false]), none⟩,
  ⟨some [false, false, false], .move (.s [true, false, true, false]), none⟩])
def c70_o5 : CCode := .trim [[], [false], [true], [false, false], [true, false], [true, true], [false, false, false], [false, true, false, false], [true, true, false, false]] (.ops [
  ⟨some [true, false, false], .alloc none (List.replicate 38 (.int .i64 0)), none⟩])
def c70_o6 : CCode := .trim [[], [false], [true], [false, false], [true, false], [true, true], [false, false, false], [true, false, false], [false, true, false, false], [true, true, false, false]] (.ops [
  ⟨some [false, true, true, false], .move (.s [false, false, false]), none⟩,
  ⟨some [true, true, true, false], .bin .add (.s [false, true, true, false]) (.c (.int .i64 1)), none⟩,
  ⟨some [false, false, false, true], .slArr 38 1 (.s [true, true]) none (some (.s [true, true, true, false])), none⟩,
  ⟨some [true, false, false, true], .len 1 (.s [false, false, false, true]), none⟩,
  ⟨some [false, true, false, true], .move (.c (.int .i64 0)), none⟩])
def c70_o7 : CCode := .trim [[], [false], [true], [false, false], [true, false], [true, true], [false, false, false], [true, false, false], [false, true, false, false], [true, true, false, false], [false, false, false, true], [true, false, false, true], [false, true, false, true]] (.ops [
  ⟨some [true, true, false, true], .bin .lss (.s [false, true, false, true]) (.s [true, false, false, true]), none⟩])
def c70_o8 : CCode := .trim [[], [false], [true], [false, false], [true, false], [true, true], [false, false, false], [true, false, false], [false, true, false, false], [true, true, false, false], [false, false, false, true], [true, false, false, true], [false, true, false, true]] (.ops [
  ⟨some [false, false, true, true], .move (.s [false, true, false, true]), none⟩,
  ⟨some [true, false, true, true], .idxSl 1 (.s [false, false, false, true]) (.s [false, true, false, true]), none⟩,
  ⟨some [false, true, true, true], .load none (.s [true, false, true, true]), none⟩,
  ⟨some [false, true, false], .move (.s [false, false, true, true]), none⟩,
  ⟨some [true, true, false], .move (.s [false, true, true, true]), none⟩])
def c70_o9 : CCode := .trim [[], [false], [true], [false, false], [true, false], [true, true], [false, false, false], [true, false, false], [false, true, false], [true, true, false], [false, true, false, false], [true, true, false, false], [false, false, false, true], [true, false, false, true], [false, true, false, true]] (.ops [
  ⟨some [true, true, true, true], .move (.s [false, true, false]), none⟩,
  ⟨some [false, false, false, false, false], .idxArr 38 1 (.s [true, false, false]) (.s [true, true, true, true]), none⟩,
  ⟨some [true, false, false, false, false], .load none (.s [false, false, false, false, false]), none⟩,
  ⟨some [false, true, false, false, false], .move (.s [true, true, false]), none⟩,
  ⟨some [true, true, false, false, false], .bin .add (.s [true, false, false, false, false]) (.s [false, true, false, false, false]), none⟩,
  ⟨some [false, false, true, false, false], .idxArr 38 1 (.s [true, false, false]) (.s [true, true, true, true]), none⟩,
  ⟨none, .store 1 (.s [false, false, true, false, false]) (.s [true, true, false, false, false]), none⟩])
def c70_o10 : CCode := .trim [[], [false], [true], [false, false], [true, false], [true, true], [false, false, false], [true, false, false], [false, true, false], [true, true, false], [false, true, false, false], [true, true, false, false], [false, false, false, true], [true, false, false, true], [false, true, false, true]] (.ops [
  ⟨some [true, false, true, false, false], .move (.s [false, true, false]), none⟩,
  ⟨some [false, true, true, false, false], .bin .add (.s [true, false, true, false, false]) (.c (.int .i64 1)), none⟩,
  ⟨some [true, true, true, false, false], .idxArr 38 1 (.s [true, false, false]) (.s [false, true, true, false, false]), none⟩,
  ⟨some [false, false, false, true, false], .load none (.s [true, true, true, false, false]), none⟩,
  ⟨some [true, false, false, true, false], .move (.s [true, true, false]), none⟩,
  ⟨some [false, true, false, true, false], .bin .add (.s [false, false, false, true, false]) (.s [true, false, false, true, false]), none⟩,
  ⟨some [true, true, false, true, false], .idxArr 38 1 (.s [true, false, false]) (.s [false, true, true, false, false]), none⟩,
  ⟨none, .store 1 (.s [true, true, false, true, false]) (.s [false, true, false, true, false]), none⟩])
def c70_o11 : CCode := .trim [[], [false], [true], [false, false], [true, false], [true, true], [false, false, false], [true, false, false], [false, true, false, false], [true, true, false, false], [false, false, false, true], [true, false, false, true], [false, true, false, true]] (.ops [
  ⟨some [false, false, true, true, false], .bin .add (.s [false, true, false, true]) (.c (.int .i64 1)), none⟩,
  ⟨some [false, true, false, true], .move (.s [false, false, true, true, false]), none⟩])
def c70_b0 : CCode := (.seq c70_o7
 (.seq (.cond (.s [true, true, false, true]) .skip (.exit 2))
 (.seq (.block 3 (.seq c70_o8
 (.seq c70_o9
 c70_o10)))
 c70_o11)))
def c70_l0 : CCode := .loop [[], [false], [true], [false, false], [true, false], [true, true], [false, false, false], [true, false, false], [false, true, false, false], [true, true, false, false], [false, false, false, true], [true, false, false, true], [false, true, false, true]] c70_b0
def c70_o12 : CCode := .trim [[], [false], [true], [false, false], [true, false], [true, true], [false, false, false], [true, false, false], [false, true, false, false], [true, true, false, false]] (.ops [
  ⟨some [false, false, true], .alloc none [.int .i64 0, .int .i64 0], none⟩])
def c70_o13 : CCode := .trim [[], [false], [true], [false, false], [true, false], [true, true], [false, false, false], [true, false, false], [false, false, true], [false, true, false, false], [true, true, false, false]] (.ops [
  ⟨some [true, false, true, true, false], .move (.s [false, false, false]), none⟩,
  ⟨some [false, true, true, true, false], .bin .add (.s [true, false, true, true, false]) (.c (.int .i64 2)), none⟩,
  ⟨some [true, true, true, true, false], .slArr 38 1 (.s [true, false, false]) none (some (.s [false, true, true, true, false])), none⟩,
  ⟨some [false, false, false, false, true], .len 1 (.s [true, true, true, true, false]), none⟩,
  ⟨some [true, false, false, false, true], .move (.c (.int .i64 0)), none⟩])
def c70_o14 : CCode := .trim [[], [false], [true], [false, false], [true, false], [true, true], [false, false, false], [true, false, false], [false, false, true], [false, true, false, false], [true, true, false, false], [false, false, false, false, true], [true, false, false, false, true]] (.ops [
  ⟨some [false, true, false, false, true], .bin .lss (.s [true, false, false, false, true]) (.s [false, false, false, false, true]), none⟩])
def c70_o15 : CCode := .trim [[], [false], [true], [false, false], [true, false], [true, true], [false, false, false], [true, false, false], [false, false, true], [false, true, false, false], [true, true, false, false], [false, false, false, false, true], [true, false, false, false, true]] (.ops [
  ⟨some [true, true, false, false, true], .move (.s [true, false, false, false, true]), none⟩,
  ⟨some [true, false, true], .move (.s [true, true, false, false, true]), none⟩])
def c70_o16 : CCode := .trim [[], [false], [true], [false, false], [true, false], [true, true], [false, false, false], [true, false, false], [false, false, true], [true, false, true], [false, true, false, false], [true, true, false, false], [false, false, false, false, true], [true, false, false, false, true]] (.draw 0 [
  ⟨some [false, false, true, false, true], .move (.s [true, false, true]), none⟩,
  ⟨some [true, false, true, false, true], .idxArr 38 1 (.s [true, false, false]) (.s [false, false, true, false, true]), none⟩,
  ⟨some [false, true, true, false, true], .load none (.s [true, false, true, false, true]), none⟩,
  ⟨some [true, true, true, false, true], .load none (.s [true]), none⟩,
  ⟨some [false, false, false, true, true], .load none (.s [false, false]), none⟩,
  ⟨some [true, false, false, true, true], .move (.s [false, false, false]), none⟩,
  ⟨some [false, true, false, true, true], .bin .sub (.s [false, false, false, true, true]) (.s [true, false, false, true, true]), none⟩,
  ⟨some [true, true, false, true, true], .bin .sub (.s [false, true, false, true, true]) (.c (.int .i64 1)), none⟩,
  ⟨some [false, false, true, true, true], .load none (.s [true, false]), none⟩,
  ⟨some [true, false, true, true, true], .move (.s [true, false, true]), none⟩,
  ⟨some [false, true, true, true, true], .bin .sub (.s [false, false, true, true, true]) (.s [true, false, true, true, true]), none⟩,
  ⟨some [true, true, true, true, true], .call false (.c (.func 58 [])) [(.s [true, true, true, false, true]), (.s [true, true, false, true, true]), (.s [false, true, true, true, true])], none⟩,
  ⟨some [false, false, false, false, false, false], .bin .mul (.s [false, true, true, false, true]) (.s [true, true, true, true, true]), none⟩,
  ⟨some [false, true, true], .move (.s [false, false, false, false, false, false]), none⟩]
  [(2, 3), (2, 4), (3, 4), (2, 8), (3, 8), (4, 8), (2, 11)] [[], [0], [0, 1], [], [], [], [4, 5], [4, 5, 6], [], [], [8, 9], [3, 4, 5, 6, 7, 8, 9, 10], [0, 1, 2, 3, 4, 5, 6, 7, 8, 9, 10, 11], [0, 1, 2, 3, 4, 5, 6, 7, 8, 9, 10, 11, 12]])
def c70_o17 : CCode := .trim [[], [false], [true], [false, false], [true, false], [true, true], [false, false, false], [true, false, false], [false, false, true], [true, false, true], [false, true, true], [false, true, false, false], [true, true, false, false], [false, false, false, false, true], [true, false, false, false, true]] (.ops [
  ⟨some [false, true, false, false, false, false], .move (.s [true, false, true]), none⟩,
  ⟨some [true, true, false, false, false, false], .fieldAddr 0 (.s [false]), none⟩,
  ⟨some [false, false, true, false, false, false], .load none (.s [true, true, false, false, false, false]), none⟩,
  ⟨some [true, false, true, false, false, false], .move (.s [false, false, false]), none⟩,
  ⟨some [false, true, true, false, false, false], .idxSl 1 (.s [false, false, true, false, false, false]) (.s [true, false, true, false, false, false]), none⟩,
  ⟨some [true, true, true, false, false, false], .load none (.s [false, true, true, false, false, false]), none⟩,
  ⟨some [false, false, false, true, false, false], .bin .leq (.s [false, true, false, false, false, false]) (.s [true, true, true, false, false, false]), none⟩,
  ⟨some [true, false, false, false, false, false], .move (.s [false, false, false, true, false, false]), none⟩])
def c70_o18 : CCode := .trim [[], [false], [true], [false, false], [true, false], [true, true], [false, false, false], [true, false, false], [false, false, true], [true, false, true], [false, true, true], [false, true, false, false], [true, true, false, false], [false, false, false, false, true], [true, false, false, false, true]] (.ops [
  ⟨some [true, false, false, true, false, false], .fieldAddr 0 (.s [false, false, true]), none⟩,
  ⟨some [false, true, false, true, false, false], .load none (.s [true, false, false, true, false, false]), none⟩,
  ⟨some [true, true, false, true, false, false], .move (.s [false, true, true]), none⟩,
  ⟨some [false, false, true, true, false, false], .bin .add (.s [false, true, false, true, false, false]) (.s [true, true, false, true, false, false]), none⟩,
  ⟨some [true, false, true, true, false, false], .fieldAddr 0 (.s [false, false, true]), none⟩,
  ⟨none, .store 1 (.s [true, false, true, true, false, false]) (.s [false, false, true, true, false, false]), none⟩])
def c70_o19 : CCode := .trim [[], [false], [true], [false, false], [true, false], [true, true], [false, false, false], [true, false, false], [false, false, true], [true, false, true], [false, true, false, false], [true, true, false, false], [false, false, false, false, true], [true, false, false, false, true]] (.ops [
  ⟨some [false, true, true, true, false, false], .move (.s [true, false, true]), none⟩,
  ⟨some [true, true, true, true, false, false], .idxArr 38 1 (.s [true, false, false]) (.s [false, true, true, true, false, false]), none⟩,
  ⟨none, .store 1 (.s [true, true, true, true, false, false]) (.c (.int .i64 0)), none⟩])
def c70_o20 : CCode := .trim [[], [false], [true], [false, false], [true, false], [true, true], [false, false, false], [true, false, false], [false, false, true], [true, false, true], [false, true, true], [false, true, false, false], [true, true, false, false], [false, false, false, false, true], [true, false, false, false, true]] (.ops [
  ⟨some [true, false, false, false, true, false], .move (.s [true, false, true]), none⟩,
  ⟨some [false, true, false, false, true, false], .fieldAddr 1 (.s [false]), none⟩,
  ⟨some [true, true, false, false, true, false], .load none (.s [false, true, false, false, true, false]), none⟩,
  ⟨some [false, false, true, false, true, false], .move (.s [false, false, false]), none⟩,
  ⟨some [true, false, true, false, true, false], .idxSl 1 (.s [true, true, false, false, true, false]) (.s [false, false, true, false, true, false]), none⟩,
  ⟨some [false, true, true, false, true, false], .load none (.s [true, false, true, false, true, false]), none⟩,
  ⟨some [true, true, true, false, true, false], .bin .geq (.s [true, false, false, false, true, false]) (.s [false, true, true, false, true, false]), none⟩,
  ⟨some [false, false, false, false, true, false], .move (.s [true, true, true, false, true, false]), none⟩])
def c70_o21 : CCode := .trim [[], [false], [true], [false, false], [true, false], [true, true], [false, false, false], [true, false, false], [false, false, true], [true, false, true], [false, true, true], [false, true, false, false], [true, true, false, false], [false, false, false, false, true], [true, false, false, false, true]] (.ops [
  ⟨some [false, false, false, true, true, false], .fieldAddr 1 (.s [false, false, true]), none⟩,
  ⟨some [true, false, false, true, true, false], .load none (.s [false, false, false, true, true, false]), none⟩,
  ⟨some [false, true, false, true, true, false], .move (.s [false, true, true]), none⟩,
  ⟨some [true, true, false, true, true, false], .bin .add (.s [true, false, false, true, true, false]) (.s [false, true, false, true, true, false]), none⟩,
  ⟨some [false, false, true, true, true, false], .fieldAddr 1 (.s [false, false, true]), none⟩,
  ⟨none, .store 1 (.s [false, false, true, true, true, false]) (.s [true, true, false, true, true, false]), none⟩])
def c70_o22 : CCode := .trim [[], [false], [true], [false, false], [true, false], [true, true], [false, false, false], [true, false, false], [false, false, true], [true, false, true], [false, true, false, false], [true, true, false, false], [false, false, false, false, true], [true, false, false, false, true]] (.ops [
  ⟨some [true, false, true, true, true, false], .move (.s [true, false, true]), none⟩,
  ⟨some [false, true, true, true, true, false], .idxArr 38 1 (.s [true, false, false]) (.s [true, false, true, true, true, false]), none⟩,
  ⟨none, .store 1 (.s [false, true, true, true, true, false]) (.c (.int .i64 0)), none⟩])
def c70_o23 : CCode := .trim [[], [false], [true], [false, false], [true, false], [true, true], [false, false, false], [true, false, false], [false, false, true], [false, true, false, false], [true, true, false, false], [false, false, false, false, true], [true, false, false, false, true]] (.ops [
  ⟨some [true, true, true, true, true, false], .bin .add (.s [true, false, false, false, true]) (.c (.int .i64 1)), none⟩,
  ⟨some [true, false, false, false, true], .move (.s [true, true, true, true, true, false]), none⟩])
def c70_b1 : CCode := (.seq c70_o14
 (.seq (.cond (.s [false, true, false, false, true]) .skip (.exit 4))
 (.seq (.block 5 (.seq c70_o15
 (.seq c70_o16
 (.block 6 (.seq c70_o17
 (.cond (.s [true, false, false, false, false, false]) (.seq c70_o18
 c70_o19) (.seq c70_o20
 (.cond (.s [false, false, false, false, true, false]) (.seq c70_o21
 c70_o22) .skip))))))))
 c70_o23)))
def c70_l1 : CCode := .loop [[], [false], [true], [false, false], [true, false], [true, true], [false, false, false], [true, false, false], [false, false, true], [false, true, false, false], [true, true, false, false], [false, false, false, false, true], [true, false, false, false, true]] c70_b1
def c70_o24 : CCode := .trim [[], [false], [true], [false, false], [true, false], [true, true], [false, false, false], [true, false, false], [false, false, true], [false, true, false, false], [true, true, false, false]] (.ops [
  ⟨some [false, false, false, false, false, true], .load (some 38) (.s [true, false, false]), none⟩,
  ⟨none, .store 38 (.s [true, true]) (.s [false, false, false, false, false, true]), none⟩])
def c70_o25 : CCode := .trim [[], [false], [true], [false, false], [true, false], [true, true], [false, false, false], [false, false, true], [false, true, false, false], [true, true, false, false]] (.ops [
  ⟨some [true, false, false, false, false, true], .move (.s []), none⟩,
  ⟨some [false, true, false, false, false, true], .move (.s [false, false, false]), none⟩,
  ⟨some [true, true, false, false, false, true], .bin .add (.s [false, true, false, false, false, true]) (.c (.int .i64 1)), none⟩,
  ⟨some [false, false, true, false, false, true], .load (some 2) (.s [false, false, true]), none⟩,
  ⟨some [true, false, true, false, false, true], .call false (.s [true, false, false, false, false, true]) [(.s [true, true, false, false, false, true]), (.s [false, false, true, false, false, true])], none⟩,
  ⟨some [false, true, true, false, false, true], .un .not (.s [true, false, true, false, false, true]), none⟩])
def c70_o26 : CCode := .trim [[], [false], [true], [false, false], [true, false], [true, true], [false, true, false, false], [true, true, false, false]] (.ops [
  ⟨some [true, true, true, false, false, true], .bin .add (.s [true, true, false, false]) (.c (.int .i64 1)), none⟩,
  ⟨some [true, true, false, false], .move (.s [true, true, true, false, false, true]), none⟩])
def c70_b2 : CCode := (.seq c70_o3
 (.seq (.cond (.s [false, false, true, false]) .skip (.exit 0))
 (.seq (.block 1 (.seq c70_o4
 (.seq c70_o5
 (.seq (.seq c70_o6
 (.block 2 c70_l0))
 (.seq c70_o12
 (.seq (.seq c70_o13
 (.block 4 c70_l1))
 (.seq c70_o24
 (.seq c70_o25
 (.cond (.s [false, true, true, false, false, true]) .ret .skip)))))))))
 c70_o26)))
def c70_l2 : CCode := .loop [[], [false], [true], [false, false], [true, false], [true, true], [false, true, false, false], [true, true, false, false]] c70_b2
def c70 : CFunc := { params := [[], [false], [true], [false, false], [true, false]], results := [], shared := true, body := (.seq c70_o0
 (.seq c70_o1
 (.seq c70_o2
 (.block 0 c70_l2)))) }
-- math/bits.Mul32
-- c71_o0: 0=[] 1=[f]
-- c71_o1: 0=[] 1=[f]
-- c71_o2: 6=[t, t]
def c71_o0 : CCode := .trim [[], [false]] (.ops [
  ⟨some [true, false], .move (.c (.int .u32 0)), none⟩,
  ⟨some [false, true], .move (.c (.int .u32 0)), none⟩])
def c71_o1 : CCode := .trim [[], [false]] (.ops [
  ⟨some [false, false, false], .move (.s []), none⟩,
  ⟨some [true, false, false], .conv .u64 (.s [false, false, false]), none⟩,
  ⟨some [false, true, false], .move (.s [false]), none⟩,
  ⟨some [true, true, false], .conv .u64 (.s [false, true, false]), none⟩,
  ⟨some [false, false, true], .bin .mul (.s [true, false, false]) (.s [true, true, false]), none⟩,
  ⟨some [true, true], .move (.s [false, false, true]), none⟩])
def c71_o2 : CCode := .trim [[true, true]] (.ops [
  ⟨some [true, false, true], .move (.s [true, true]), none⟩,
  ⟨some [false, true, true], .bin .shr (.s [true, false, true]) (.c (.int .u64 32)), none⟩,
  ⟨some [true, true, true], .conv .u32 (.s [false, true, true]), none⟩,
  ⟨some [false, false, false, false], .move (.s [true, true]), none⟩,
  ⟨some [true, false, false, false], .conv .u32 (.s [false, false, false, false]), none⟩,
  ⟨some [true, false], .move (.s [true, true, true]), none⟩,
  ⟨some [false, true], .move (.s [true, false, false, false]), none⟩])
def c71 : CFunc := { params := [[], [false]], results := [.slot [true, false], .slot [false, true]], shared := false, body := (.seq c71_o0
 (.seq c71_o1
 (.seq c71_o2
 .ret))) }

end Go.Proofs.Ytlkgpcfhpeilhaa.Ev
