/-
  The code of the program's functions as the evaluator takes it,printed by wip/tool/emit.py. SCheck ties each to the translation. No condition.
-/
import Derived.Test.YtljgfdamdcikgaaEv
open Bool renaming true → t, false → f
open Option renaming some → S, none → o
namespace Go.Proofs.Ytljgfdamdcikgaa.Ev
open Go Go.AEv
open COp renaming move → m
set_option linter.unusedVariables false
private abbrev r:=List.range
def c85_o0 : CCode:=(.trim [[],[f]] (.ops [
  ⟨S [t,f],m (.c (.int .i64 0)),o⟩]))
def c85_o1 : CCode:=(.trim [[],[f]] (.ops [
  ⟨S [f,t],m (.c (.int .i64 0)),o⟩]))
def c85_o2 : CCode:=(.trim [[],[f],[f,t]] (.ops [
  ⟨S [f,f,f],m (.s [f]),o⟩,
  ⟨S [t,f,f],.len 0 (.s [f,f,f]),o⟩,
  ⟨S [f,t,f],m (.c (.int .i64 0)),o⟩]))
def c85_o3 : CCode:=(.trim [[],[f],[f,t],[t,f,f],[f,t,f]] (.ops [
  ⟨S [t,t,f],.bin .lss (.s [f,t,f]) (.s [t,f,f]),o⟩]))
def c85_o4 : CCode:=(.trim [[],[f],[f,t],[t,f,f],[f,t,f]] (.ops [
  ⟨S [f,f,t],m (.s [f,t,f]),o⟩,
  ⟨S [t,t],m (.s [f,f,t]),o⟩]))
def c85_o5 : CCode:=(.trim [[],[f],[f,t],[t,t],[t,f,f],[f,t,f]] (.draw 0 [
  ⟨S [t,f,t],m (.s [f,t]),o⟩,
  ⟨S [f,t,t],m (.s []),o⟩,
  ⟨S [t,t,t],m (.s [t,t]),o⟩,
  ⟨S [f,f,f,f],.idxSl 1 (.s [f,t,t]) (.s [t,t,t]),o⟩,
  ⟨S [t,f,f,f],.load o (.s [f,f,f,f]),o⟩,
  ⟨S [f,t,f,f],m (.s [f]),o⟩,
  ⟨S [t,t,f,f],m (.s [t,t]),o⟩,
  ⟨S [f,f,t,f],.idxStr (.s [f,t,f,f]) (.s [t,t,f,f]),o⟩,
  ⟨S [t,f,t,f],.bin .sub (.s [f,f,t,f]) (.c (.int .u8 48)),o⟩,
  ⟨S [f,t,t,f],.idxSl 1 (.s [t,f,f,f]) (.s [t,f,t,f]),o⟩,
  ⟨S [t,t,t,f],.load o (.s [f,t,t,f]),o⟩,
  ⟨S [f,f,f,t],.bin .add (.s [t,f,t]) (.s [t,t,t,f]),o⟩,
  ⟨S [f,t],m (.s [f,f,f,t]),o⟩]
  [] [[],[],[],[1,2],[1,2,3],[],[],[5,6],[5,6,7],[1,2,3,4,5,6,7,8],[1,2,3,4,5,6,7,8,9],(r 11),(r 12)]))
def c85_o6 : CCode:=(.trim [[],[f],[f,t],[t,f,f],[f,t,f]] (.ops [
  ⟨S [t,f,f,t],.bin .add (.s [f,t,f]) (.c (.int .i64 1)),o⟩,
  ⟨S [f,t,f],m (.s [t,f,f,t]),o⟩]))
def c85_b0 : CCode:=((.seq c85_o3
 (.seq (.cond (.s [t,t,f]) .skip (.exit 0))
 (.seq (.block 1 (.seq c85_o4
 c85_o5))
 c85_o6))))
def c85_l0 : CCode:=(.loop [[],[f],[f,t],[t,f,f],[f,t,f]] c85_b0)
def c85_o7 : CCode:=(.trim [[f,t]] (.ops [
  ⟨S [f,t,f,t],m (.s [f,t]),o⟩,
  ⟨S [t,f],m (.s [f,t,f,t]),o⟩]))
def c85 : CFunc:=({ params:=[[],[f]],results:=[.slot [t,f]],shared:=f,body:=(.seq c85_o0
 (.seq c85_o1
 (.seq (.seq c85_o2
 (.block 0 c85_l0))
 (.seq c85_o7
 .ret)))) })
def c86_o0 : CCode:=(.trim [[],[f]] (.ops [
  ⟨S [t,f],m (.c (.int .i64 0)),o⟩]))
def c86_o1 : CCode:=(.trim [[],[f]] (.ops [
  ⟨S [f,t],m (.c (.int .i64 0)),o⟩]))
def c86_o2 : CCode:=(.trim [[],[f],[f,t]] (.ops [
  ⟨S [t,t],m (.c (.int .i64 0)),o⟩]))
def c86_o3 : CCode:=(.trim [[],[f],[f,t],[t,t]] (.ops [
  ⟨S [f,f,f],m (.s [t,t]),o⟩,
  ⟨S [t,f,f],m (.s [f]),o⟩,
  ⟨S [f,t,f],.len 0 (.s [t,f,f]),o⟩,
  ⟨S [t,t,f],.bin .lss (.s [f,f,f]) (.s [f,t,f]),o⟩]))
def c86_o4 : CCode:=(.trim [[],[f],[f,t],[t,t]] (.draw 0 [
  ⟨S [f,t,t],m (.s [f,t]),o⟩,
  ⟨S [t,t,t],m (.s []),o⟩,
  ⟨S [f,f,f,f],m (.s [t,t]),o⟩,
  ⟨S [t,f,f,f],.idxSl 1 (.s [t,t,t]) (.s [f,f,f,f]),o⟩,
  ⟨S [f,t,f,f],.load o (.s [t,f,f,f]),o⟩,
  ⟨S [t,t,f,f],m (.s [f]),o⟩,
  ⟨S [f,f,t,f],m (.s [t,t]),o⟩,
  ⟨S [t,f,t,f],.idxStr (.s [t,t,f,f]) (.s [f,f,t,f]),o⟩,
  ⟨S [f,t,t,f],.bin .sub (.s [t,f,t,f]) (.c (.int .u8 48)),o⟩,
  ⟨S [t,t,t,f],.idxSl 1 (.s [f,t,f,f]) (.s [f,t,t,f]),o⟩,
  ⟨S [f,f,f,t],.load o (.s [t,t,t,f]),o⟩,
  ⟨S [t,f,f,t],.bin .add (.s [f,t,t]) (.s [f,f,f,t]),o⟩,
  ⟨S [f,t],m (.s [t,f,f,t]),o⟩]
  [] [[],[],[],[1,2],[1,2,3],[],[],[5,6],[5,6,7],[1,2,3,4,5,6,7,8],[1,2,3,4,5,6,7,8,9],(r 11),(r 12)]))
def c86_o5 : CCode:=(.trim [[],[f],[f,t],[t,t]] (.ops [
  ⟨S [f,f,t],m (.s [t,t]),o⟩,
  ⟨S [t,f,t],.bin .add (.s [f,f,t]) (.c (.int .i64 1)),o⟩,
  ⟨S [t,t],m (.s [t,f,t]),o⟩]))
def c86_b0 : CCode:=((.seq (.seq c86_o3
 (.cond (.s [t,t,f]) .skip (.exit 0)))
 (.seq (.block 1 c86_o4)
 c86_o5)))
def c86_l0 : CCode:=(.loop [[],[f],[f,t],[t,t]] c86_b0)
def c86_o6 : CCode:=(.trim [[f,t]] (.ops [
  ⟨S [f,t,f,t],m (.s [f,t]),o⟩,
  ⟨S [t,f],m (.s [f,t,f,t]),o⟩]))
def c86 : CFunc:=({ params:=[[],[f]],results:=[.slot [t,f]],shared:=f,body:=(.seq c86_o0
 (.seq c86_o1
 (.seq (.seq c86_o2
 (.block 0 c86_l0))
 (.seq c86_o6
 .ret)))) })
def c87_o0 : CCode:=(.trim [[],[f]] (.ops [
  ⟨S [f,f],.box o (.s [f]),o⟩,
  ⟨S [t,f],m (.c (.bool f)),o⟩]))
def c87_o1 : CCode:=(.trim [[],[f,f]] (.ops [
  ⟨S [f,t],m (.s []),o⟩,
  ⟨S [t,t],.len 1 (.s [f,t]),o⟩,
  ⟨S [f,f,f],.load o (.s [f,f]),o⟩,
  ⟨S [t,f,f],.bin .eql (.s [t,t]) (.s [f,f,f]),o⟩,
  ⟨S [f,t,f],m (.s [t,f,f]),o⟩,
  ⟨S [t,t,f],m (.s []),S ([f,t,f],t)⟩,
  ⟨S [f,f,t],.makeFunc 103 [(.s [f,f])],S ([f,t,f],t)⟩,
  ⟨S [t,f,t],.call f (.c (.func 102 [])) [(.s [t,t,f]),(.s [f,f,t])],S ([f,t,f],t)⟩,
  ⟨S [f,t,t],.un .not (.s [t,f,t]),S ([f,t,f],t)⟩,
  ⟨S [t,t,t],.pick (.s [f,t,f]) (.s [f,t,t]) (.c (.bool f)),o⟩,
  ⟨S [t,f],m (.s [t,t,t]),o⟩]))
def c87 : CFunc:=({ params:=[[],[f]],results:=[.slot [t,f]],shared:=f,body:=(.seq c87_o0
 (.seq c87_o1
 .ret)) })
def c88_o0 : CCode:=(.trim [[],[f]] (.ops [
  ⟨S [t],.box o (.s []),o⟩,
  ⟨S [f,f],.box o (.s [f]),o⟩,
  ⟨S [t,f],m (.c (.nilf)),o⟩]))
def c88_o1 : CCode:=(.trim [[t],[f,f]] (.ops [
  ⟨S [f,t],.makeFunc 105 [(.s [f,f]),(.s [t])],o⟩,
  ⟨S [t,f],m (.s [f,t]),o⟩]))
def c88 : CFunc:=({ params:=[[],[f]],results:=[.slot [t,f]],shared:=f,body:=(.seq c88_o0
 (.seq c88_o1
 .ret)) })
def c89_o0 : CCode:=(.trim [[],[f]] (.ops [
  ⟨S [t],.box o (.s []),o⟩,
  ⟨S [t,f],m (.c (.bool f)),o⟩]))
def c89_o1 : CCode:=(.trim [[f],[t]] (.ops [
  ⟨S [f,t],m (.c (.int .i64 1)),o⟩]))
def c89_o2 : CCode:=(.trim [[f],[t],[f,t]] (.ops [
  ⟨S [t,t],m (.s [f,t]),o⟩,
  ⟨S [f,f,f],m (.s [f]),o⟩,
  ⟨S [t,f,f],.len 0 (.s [f,f,f]),o⟩,
  ⟨S [f,t,f],.bin .lss (.s [t,t]) (.s [t,f,f]),o⟩]))
def c89_o3 : CCode:=(.trim [[f],[t],[f,t]] (.draw 0 [
  ⟨S [t,f,t],.fieldAddr 1 (.s [t]),o⟩,
  ⟨S [f,t,t],.load o (.s [t,f,t]),o⟩,
  ⟨S [t,t,t],m (.s [f]),o⟩,
  ⟨S [f,f,f,f],m (.s [f,t]),o⟩,
  ⟨S [t,f,f,f],.bin .sub (.s [f,f,f,f]) (.c (.int .i64 1)),o⟩,
  ⟨S [f,t,f,f],.idxStr (.s [t,t,t]) (.s [t,f,f,f]),o⟩,
  ⟨S [t,t,f,f],.bin .sub (.s [f,t,f,f]) (.c (.int .u8 48)),o⟩,
  ⟨S [f,f,t,f],.idxSl 1 (.s [f,t,t]) (.s [t,t,f,f]),o⟩,
  ⟨S [t,f,t,f],.load o (.s [f,f,t,f]),o⟩,
  ⟨S [f,t,t,f],m (.s [f]),o⟩,
  ⟨S [t,t,t,f],m (.s [f,t]),o⟩,
  ⟨S [f,f,f,t],.idxStr (.s [f,t,t,f]) (.s [t,t,t,f]),o⟩,
  ⟨S [t,f,f,t],.bin .sub (.s [f,f,f,t]) (.c (.int .u8 48)),o⟩,
  ⟨S [f,t,f,t],.idxSl 1 (.s [t,f,t,f]) (.s [t,f,f,t]),o⟩,
  ⟨S [t,t,f,t],.load o (.s [f,t,f,t]),o⟩,
  ⟨S [f,f,t,t],.bin .eql (.s [t,t,f,t]) (.c (.int .i64 0)),o⟩]
  [] [[],[0],[],[],[3],[2,3,4],[2,3,4,5],(r 7),(r 8),[],[],[9,10],[9,10,11],(r 13),(r 14),(r 15)]))
def c89_o4 : CCode:=(.trim [] (.ops [
  ⟨S [t,f],m (.c (.bool f)),o⟩]))
def c89_o5 : CCode:=(.trim [[f],[t],[f,t]] (.ops [
  ⟨S [t,t,f],m (.s [f,t]),o⟩,
  ⟨S [f,f,t],.bin .add (.s [t,t,f]) (.c (.int .i64 1)),o⟩,
  ⟨S [f,t],m (.s [f,f,t]),o⟩]))
def c89_b0 : CCode:=((.seq (.seq c89_o2
 (.cond (.s [f,t,f]) .skip (.exit 0)))
 (.seq (.block 1 (.seq c89_o3
 (.cond (.s [f,f,t,t]) (.seq c89_o4
 .ret) .skip)))
 c89_o5)))
def c89_l0 : CCode:=(.loop [[f],[t],[f,t]] c89_b0)
def c89_o6 : CCode:=(.trim [] (.ops [
  ⟨S [t,f],m (.c (.bool t)),o⟩]))
def c89 : CFunc:=({ params:=[[],[f]],results:=[.slot [t,f]],shared:=f,body:=(.seq c89_o0
 (.seq (.seq c89_o1
 (.block 0 c89_l0))
 (.seq c89_o6
 .ret))) })
def c90_o0 : CCode:=(.trim [[],[f],[t]] (.ops [
  ⟨S [f,f],.box o (.s []),o⟩,
  ⟨S [t,t],m (.c (.bool f)),o⟩]))
def c90_o1 : CCode:=(.trim [[f],[t],[f,f]] (.ops [
  ⟨S [t,f,f],m (.s [f]),o⟩,
  ⟨S [f,t,f],.len 0 (.s [t,f,f]),o⟩,
  ⟨S [t,t,f],m (.c (.int .i64 0)),o⟩]))
def c90_o2 : CCode:=(.trim [[f],[t],[f,f],[f,t,f],[t,t,f]] (.ops [
  ⟨S [f,f,t],.bin .lss (.s [t,t,f]) (.s [f,t,f]),o⟩]))
def c90_o3 : CCode:=(.trim [[f],[t],[f,f],[f,t,f],[t,t,f]] (.ops [
  ⟨S [t,f,t],m (.s [t,t,f]),o⟩,
  ⟨S [f,f,f],m (.s [t,f,t]),o⟩]))
def c90_o4 : CCode:=(.trim [[f],[t],[f,f],[f,f,f],[f,t,f],[t,t,f]] (.draw 0 [
  ⟨S [f,t,t],.fieldAddr 2 (.s [f,f]),o⟩,
  ⟨S [t,t,t],.load o (.s [f,t,t]),o⟩,
  ⟨S [f,f,f,f],m (.s [f]),o⟩,
  ⟨S [t,f,f,f],m (.s [f,f,f]),o⟩,
  ⟨S [f,t,f,f],.idxStr (.s [f,f,f,f]) (.s [t,f,f,f]),o⟩,
  ⟨S [t,t,f,f],.bin .sub (.s [f,t,f,f]) (.c (.int .u8 48)),o⟩,
  ⟨S [f,f,t,f],.idxSl 1 (.s [t,t,t]) (.s [t,t,f,f]),o⟩,
  ⟨S [t,f,t,f],.load o (.s [f,f,t,f]),o⟩,
  ⟨S [f,t,t,f],m (.s [t]),o⟩,
  ⟨S [t,t,t,f],m (.s [f,f,f]),o⟩,
  ⟨S [f,f,f,t],.idxStr (.s [f,t,t,f]) (.s [t,t,t,f]),o⟩,
  ⟨S [t,f,f,t],.bin .sub (.s [f,f,f,t]) (.c (.int .u8 48)),o⟩,
  ⟨S [f,t,f,t],.idxSl 1 (.s [t,f,t,f]) (.s [t,f,f,t]),o⟩,
  ⟨S [t,t,f,t],.load o (.s [f,t,f,t]),o⟩,
  ⟨S [f,f,t,t],.bin .eql (.s [t,t,f,t]) (.c (.int .i64 0)),o⟩]
  [] [[],[0],[],[],[2,3],[2,3,4],(r 6),(r 7),[],[],[8,9],[8,9,10],(r 12),(r 13),(r 14)]))
def c90_o5 : CCode:=(.trim [] (.ops [
  ⟨S [t,t],m (.c (.bool f)),o⟩]))
def c90_o6 : CCode:=(.trim [[f],[t],[f,f],[f,t,f],[t,t,f]] (.ops [
  ⟨S [t,f,t,t],.bin .add (.s [t,t,f]) (.c (.int .i64 1)),o⟩,
  ⟨S [t,t,f],m (.s [t,f,t,t]),o⟩]))
def c90_b0 : CCode:=((.seq c90_o2
 (.seq (.cond (.s [f,f,t]) .skip (.exit 0))
 (.seq (.block 1 (.seq c90_o3
 (.seq c90_o4
 (.cond (.s [f,f,t,t]) (.seq c90_o5
 .ret) .skip))))
 c90_o6))))
def c90_l0 : CCode:=(.loop [[f],[t],[f,f],[f,t,f],[t,t,f]] c90_b0)
def c90_o7 : CCode:=(.trim [] (.ops [
  ⟨S [t,t],m (.c (.bool t)),o⟩]))
def c90 : CFunc:=({ params:=[[],[f],[t]],results:=[.slot [t,t]],shared:=f,body:=(.seq c90_o0
 (.seq (.seq c90_o1
 (.block 0 c90_l0))
 (.seq c90_o7
 .ret))) })
def c91_o0 : CCode:=(.trim [[],[f]] (.ops [
  ⟨S [t,f],m (.c (.nils)),o⟩]))
def c91_o1 : CCode:=(.trim [[],[f]] (.ops [
  ⟨S [f,t,f],m (.s [f]),o⟩,
  ⟨S [t,t,f],.bin .lss (.s [f,t,f]) (.c (.int .i64 0)),o⟩]))
def c91_o2 : CCode:=(.trim [[],[f]] (.ops [
  ⟨S [f,f,t],.iface 9 (.c (.str [99,97,110,110,111,116,32,98,101,32,110,101,103,97,116,105,118,101])),o⟩,
  ⟨o,.fail,o⟩]))
def c91_o3 : CCode:=(.trim [[],[f]] (.ops [
  ⟨S [f,t,t],m (.s []),o⟩,
  ⟨S [t,t,t],.len 1 (.s [f,t,t]),o⟩,
  ⟨S [f,f,f,f],.conv .u64 (.s [t,t,t]),o⟩,
  ⟨S [t,f,f,f],m (.s [f]),o⟩,
  ⟨S [f,t,f,f],.conv .u64 (.s [t,f,f,f]),o⟩,
  ⟨S [t,t,f,f],.call f (.c (.func 99 [])) [(.s [f,f,f,f]),(.s [f,t,f,f])],o⟩,
  ⟨S [t,f,t],m (.s [t,t,f,f]),o⟩,
  ⟨S [f,f,t,f],.extract 0 (.s [t,f,t]),o⟩,
  ⟨S [t,f,t,f],.extract 1 (.s [t,f,t]),o⟩,
  ⟨S [f,t],m (.s [f,f,t,f]),o⟩,
  ⟨S [t,t],m (.s [t,f,t,f]),o⟩]))
def c91_o4 : CCode:=(.trim [[],[f,t],[t,t]] (.ops [
  ⟨S [f,t,t,f],m (.s [f,t]),o⟩,
  ⟨S [t,t,t,f],.bin .gtr (.s [f,t,t,f]) (.c (.int .u64 0)),o⟩,
  ⟨S [f,f,f,t],m (.s [t,t,t,f]),o⟩,
  ⟨S [t,f,f,t],m (.s [t,t]),S ([f,f,f,t],f)⟩,
  ⟨S [f,t,f,t],.bin .gtr (.s [t,f,f,t]) (.c (.int .u64 9223372036854775807)),S ([f,f,f,t],f)⟩,
  ⟨S [t,t,f,t],.pick (.s [f,f,f,t]) (.c (.bool t)) (.s [f,t,f,t]),o⟩]))
def c91_o5 : CCode:=(.trim [[],[t,t]] (.ops [
  ⟨S [f,f,t,t],.iface 9 (.c (.str [116,104,101,32,114,101,115,117,108,116,32,111,102,32,40,108,101,110,40,120,41,32,42,32,99,111,117,110,116,41,32,111,118,101,114,102,108,111,119,115])),o⟩,
  ⟨o,.fail,o⟩]))
def c91_o6 : CCode:=(.trim [[],[t,t]] (.ops [
  ⟨S [t,f,t,t],m (.s [t,t]),o⟩,
  ⟨S [f,t,t,t],.conv .i64 (.s [t,f,t,t]),o⟩,
  ⟨S [t,t,t,t],.makeSlice o 1 8 [.int .i64 0] (.s [f,t,t,t]),o⟩,
  ⟨S [f,f,f],m (.s [t,t,t,t]),o⟩]))
def c91_o7 : CCode:=(.trim [[],[f,f,f]] (.ops [
  ⟨S [f,f,f,f,f],m (.s [f,f,f]),o⟩,
  ⟨S [t,f,f,f,f],m (.s []),o⟩,
  ⟨S [f,t,f,f,f],.copy 1 (.s [f,f,f,f,f]) (.s [t,f,f,f,f]),o⟩,
  ⟨S [t,f,f],m (.s [f,t,f,f,f]),o⟩]))
def c91_o8 : CCode:=(.trim [[f,f,f],[t,f,f]] (.ops [
  ⟨S [t,t,f,f,f],m (.s [t,f,f]),o⟩,
  ⟨S [f,f,t,f,f],m (.s [f,f,f]),o⟩,
  ⟨S [t,f,t,f,f],.len 1 (.s [f,f,t,f,f]),o⟩,
  ⟨S [f,t,t,f,f],.bin .lss (.s [t,t,f,f,f]) (.s [t,f,t,f,f]),o⟩]))
def c91_o9 : CCode:=(.trim [[f,f,f],[t,f,f]] (.draw 0 [
  ⟨S [t,t,t,f,f],m (.s [t,f,f]),o⟩,
  ⟨S [f,f,f,t,f],m (.s [f,f,f]),o⟩,
  ⟨S [t,f,f,t,f],m (.s [t,f,f]),o⟩,
  ⟨S [f,t,f,t,f],.slSl 1 (.s [f,f,f,t,f]) (S (.s [t,f,f,t,f])) o,o⟩,
  ⟨S [t,t,f,t,f],m (.s [f,f,f]),o⟩,
  ⟨S [f,f,t,t,f],m (.s [t,f,f]),o⟩,
  ⟨S [t,f,t,t,f],.slSl 1 (.s [t,t,f,t,f]) o (S (.s [f,f,t,t,f])),o⟩,
  ⟨S [f,t,t,t,f],.copy 1 (.s [f,t,f,t,f]) (.s [t,f,t,t,f]),o⟩,
  ⟨S [t,t,t,t,f],.bin .add (.s [t,t,t,f,f]) (.s [f,t,t,t,f]),o⟩,
  ⟨S [t,f,f],m (.s [t,t,t,t,f]),o⟩]
  [(3,6)] [[],[],[],[1,2],[],[],[4,5],[1,2,3,4,5,6],(r 8),(r 9)]))
def c91_b0 : CCode:=((.seq (.seq c91_o8
 (.cond (.s [f,t,t,f,f]) .skip (.exit 0)))
 (.block 1 c91_o9)))
def c91_l0 : CCode:=(.loop [[f,f,f],[t,f,f]] c91_b0)
def c91_o10 : CCode:=(.trim [[f,f,f]] (.ops [
  ⟨S [f,f,f,f,t],m (.s [f,f,f]),o⟩,
  ⟨S [t,f],m (.s [f,f,f,f,t]),o⟩]))
def c91 : CFunc:=({ params:=[[],[f]],results:=[.slot [t,f]],shared:=f,body:=(.seq c91_o0
 (.seq (.seq c91_o1
 (.cond (.s [t,t,f]) c91_o2 .skip))
 (.seq c91_o3
 (.seq (.seq c91_o4
 (.cond (.s [t,t,f,t]) c91_o5 .skip))
 (.seq c91_o6
 (.seq c91_o7
 (.seq (.block 0 c91_l0)
 (.seq c91_o10
 .ret)))))))) })
def c92_o0 : CCode:=(.trim [[]] (.ops [
  ⟨S [t],m (.c (.nils)),o⟩]))
def c92_o1 : CCode:=(.trim [[]] (.ops [
  ⟨S [f,f],m (.c (.nils)),o⟩]))
def c92_o2 : CCode:=(.trim [[],[f,f]] (.ops [
  ⟨S [t,f],m (.s [f,f]),o⟩,
  ⟨S [f,t],m (.s []),o⟩,
  ⟨S [t,t],m (.s []),o⟩,
  ⟨S [f,f,f],.len 1 (.s [t,t]),o⟩,
  ⟨S [t,f,f],.minmax f (.s [f,f,f]) (.c (.int .i64 6)),o⟩,
  ⟨S [f,t,f],.slSl 1 (.s [f,t]) o (S (.s [t,f,f])),o⟩,
  ⟨S [t,t,f],.append o 1 8 (.s [t,f]) (.s [f,t,f]),o⟩,
  ⟨S [t],m (.s [t,t,f]),o⟩]))
def c92 : CFunc:=({ params:=[[]],results:=[.slot [t]],shared:=f,body:=(.seq c92_o0
 (.seq c92_o1
 (.seq c92_o2
 .ret))) })
def c93_o0 : CCode:=(.trim [[],[f]] (.ops [
  ⟨S [t,f],m (.c (.int .i64 0)),o⟩]))
def c93_o1 : CCode:=(.trim [[],[f]] (.ops [
  ⟨S [t,t],m (.s []),o⟩,
  ⟨S [f,f,f],.len 1 (.s [t,t]),o⟩,
  ⟨S [t,f,f],m (.c (.int .i64 0)),o⟩]))
def c93_o2 : CCode:=(.trim [[],[f],[f,f,f],[t,f,f]] (.ops [
  ⟨S [f,t,f],.bin .lss (.s [t,f,f]) (.s [f,f,f]),o⟩]))
def c93_o3 : CCode:=(.trim [[],[f],[f,f,f],[t,f,f]] (.ops [
  ⟨S [t,t,f],m (.s [t,f,f]),o⟩,
  ⟨S [f,t],m (.s [t,t,f]),o⟩]))
def c93_o4 : CCode:=(.trim [[],[f],[f,t],[f,f,f],[t,f,f]] (.ops [
  ⟨S [f,f,t],m (.s [f]),o⟩,
  ⟨S [t,f,t],m (.s []),o⟩,
  ⟨S [f,t,t],m (.s [f,t]),o⟩,
  ⟨S [t,t,t],.idxSl 1 (.s [t,f,t]) (.s [f,t,t]),o⟩,
  ⟨S [f,f,f,f],.load o (.s [t,t,t]),o⟩,
  ⟨S [t,f,f,f],.bin .eql (.s [f,f,t]) (.s [f,f,f,f]),o⟩]))
def c93_o5 : CCode:=(.trim [[f,t]] (.ops [
  ⟨S [f,t,f,f],m (.s [f,t]),o⟩,
  ⟨S [t,f],m (.s [f,t,f,f]),o⟩]))
def c93_o6 : CCode:=(.trim [[],[f],[f,f,f],[t,f,f]] (.ops [
  ⟨S [t,t,f,f],.bin .add (.s [t,f,f]) (.c (.int .i64 1)),o⟩,
  ⟨S [t,f,f],m (.s [t,t,f,f]),o⟩]))
def c93_b0 : CCode:=((.seq c93_o2
 (.seq (.cond (.s [f,t,f]) .skip (.exit 0))
 (.seq (.block 1 (.seq c93_o3
 (.seq c93_o4
 (.cond (.s [t,f,f,f]) (.seq c93_o5
 .ret) .skip))))
 c93_o6))))
def c93_l0 : CCode:=(.loop [[],[f],[f,f,f],[t,f,f]] c93_b0)
def c93_o7 : CCode:=(.trim [] (.ops [
  ⟨S [t,f],m (.c (.int .i64 (-1))),o⟩]))
def c93 : CFunc:=({ params:=[[],[f]],results:=[.slot [t,f]],shared:=f,body:=(.seq c93_o0
 (.seq (.seq c93_o1
 (.block 0 c93_l0))
 (.seq c93_o7
 .ret))) })
def c95_o0 : CCode:=(.trim [[],[f]] (.ops [
  ⟨S [t,f],m (.c (.bool f)),o⟩]))
def c95_o1 : CCode:=(.trim [[],[f]] (.ops [
  ⟨S [f,t],m (.s []),o⟩,
  ⟨S [t,t],m (.s [f]),o⟩,
  ⟨S [f,f,f],.call f (.c (.func 107 [])) [(.s [f,t]),(.s [t,t])],o⟩,
  ⟨S [t,f,f],.bin .geq (.s [f,f,f]) (.c (.int .i64 0)),o⟩,
  ⟨S [t,f],m (.s [t,f,f]),o⟩]))
def c95 : CFunc:=({ params:=[[],[f]],results:=[.slot [t,f]],shared:=f,body:=(.seq c95_o0
 (.seq c95_o1
 .ret)) })
def c96_o0 : CCode:=(.trim [[],[f],[t]] (.ops [
  ⟨S [t,f],m (.c (.bool f)),o⟩]))
def c96_o1 : CCode:=(.trim [[],[f],[t]] (.ops [
  ⟨S [f,t],m (.s []),o⟩,
  ⟨S [t,t],.len 0 (.s [f,t]),o⟩,
  ⟨S [f,f,f],.load o (.s [f]),o⟩,
  ⟨S [t,f,f],.idxSl 1 (.s [f,f,f]) (.c (.int .i64 0)),o⟩,
  ⟨S [f,t,f],.load o (.s [t,f,f]),o⟩,
  ⟨S [t,t,f],.len 0 (.s [f,t,f]),o⟩,
  ⟨S [f,f,t],.bin .neq (.s [t,t]) (.s [t,t,f]),o⟩,
  ⟨S [t,f,t],m (.s [f,f,t]),o⟩,
  ⟨S [f,t,t],m (.s []),S ([t,f,t],f)⟩,
  ⟨S [t,t,t],.makeFunc 98 [(.s [t])],S ([t,f,t],f)⟩,
  ⟨S [f,f,f,f],.call f (.c (.func 97 [])) [(.s [f,t,t]),(.s [t,t,t])],S ([t,f,t],f)⟩,
  ⟨S [t,f,f,f],.pick (.s [t,f,t]) (.c (.bool t)) (.s [f,f,f,f]),o⟩,
  ⟨S [t,f],m (.s [t,f,f,f]),o⟩]))
def c96 : CFunc:=({ params:=[[],[f],[t]],results:=[.slot [t,f]],shared:=t,body:=(.seq c96_o0
 (.seq c96_o1
 .ret)) })
def c97_o0 : CCode:=(.trim [[],[f]] (.ops [
  ⟨S [t,f],m (.c (.bool f)),o⟩]))
def c97_o1 : CCode:=(.trim [[],[f]] (.ops [
  ⟨S [f,t],m (.s []),o⟩,
  ⟨S [t,t],m (.s [f]),o⟩,
  ⟨S [f,f,f],.call f (.c (.func 108 [])) [(.s [f,t]),(.s [t,t])],o⟩,
  ⟨S [t,f,f],.bin .geq (.s [f,f,f]) (.c (.int .i64 0)),o⟩,
  ⟨S [t,f],m (.s [t,f,f]),o⟩]))
def c97 : CFunc:=({ params:=[[],[f]],results:=[.slot [t,f]],shared:=f,body:=(.seq c97_o0
 (.seq c97_o1
 .ret)) })
def c98_o0 : CCode:=(.trim [[],[f]] (.ops [
  ⟨S [f,f],m (.c (.bool f)),o⟩]))
def c98_o1 : CCode:=(.trim [[],[f]] (.ops [
  ⟨S [t,f],m (.s []),o⟩,
  ⟨S [f,t],.conv .i64 (.s [t,f]),o⟩,
  ⟨S [t,t],.bin .sub (.s [f,t]) (.c (.int .i64 48)),o⟩,
  ⟨S [f,f,f],.fieldAddr 0 (.s [f]),o⟩,
  ⟨S [t,f,f],.load o (.s [f,f,f]),o⟩,
  ⟨S [f,t,f],.bin .sub (.s [t,f,f]) (.c (.int .i64 1)),o⟩,
  ⟨S [t,t,f],.call f (.c (.func 60 [])) [(.s [t,t]),(.c (.int .i64 0)),(.s [f,t,f])],o⟩,
  ⟨S [f,f,t],.un .not (.s [t,t,f]),o⟩,
  ⟨S [f,f],m (.s [f,f,t]),o⟩]))
def c98 : CFunc:=({ params:=[[],[f]],results:=[.slot [f,f]],shared:=t,body:=(.seq c98_o0
 (.seq c98_o1
 .ret)) })
def c99_o0 : CCode:=(.trim [[],[f]] (.ops [
  ⟨S [t,f],m (.c (.int .u64 0)),o⟩,
  ⟨S [f,t],m (.c (.int .u64 0)),o⟩]))
def c99_o1 : CCode:=(.trim [[],[f]] (.ops [
  ⟨S [f,f,t],m (.s []),o⟩,
  ⟨S [t,f,t],.conv .u32 (.s [f,f,t]),o⟩,
  ⟨S [f,t,t],m (.s [f]),o⟩,
  ⟨S [t,t,t],.conv .u32 (.s [f,t,t]),o⟩,
  ⟨S [f,f,f,f],.call f (.c (.func 109 [])) [(.s [t,f,t]),(.s [t,t,t])],o⟩,
  ⟨S [t,t,f],m (.s [f,f,f,f]),o⟩,
  ⟨S [t,f,f,f],.extract 0 (.s [t,t,f]),o⟩,
  ⟨S [f,t,f,f],.extract 1 (.s [t,t,f]),o⟩,
  ⟨S [t,t],m (.s [t,f,f,f]),o⟩,
  ⟨S [f,f,f],m (.s [f,t,f,f]),o⟩]))
def c99_o2 : CCode:=(.trim [[t,t],[f,f,f]] (.ops [
  ⟨S [t,t,f,f],m (.s [t,t]),o⟩,
  ⟨S [f,f,t,f],.conv .u64 (.s [t,t,f,f]),o⟩,
  ⟨S [t,f,t,f],m (.s [f,f,f]),o⟩,
  ⟨S [f,t,t,f],.conv .u64 (.s [t,f,t,f]),o⟩,
  ⟨S [t,f],m (.s [f,f,t,f]),o⟩,
  ⟨S [f,t],m (.s [f,t,t,f]),o⟩]))
def c99_o3 : CCode:=(.trim [[],[f]] (.ops [
  ⟨S [f,f,f,t],m (.s []),o⟩,
  ⟨S [t,f,f,t],m (.s [f]),o⟩,
  ⟨S [f,t,f,t],.call f (.c (.func 110 [])) [(.s [f,f,f,t]),(.s [t,f,f,t])],o⟩,
  ⟨S [t,t,t,f],m (.s [f,t,f,t]),o⟩,
  ⟨S [t,t,f,t],.extract 0 (.s [t,t,t,f]),o⟩,
  ⟨S [f,f,t,t],.extract 1 (.s [t,t,t,f]),o⟩,
  ⟨S [t,f,f],m (.s [t,t,f,t]),o⟩,
  ⟨S [f,t,f],m (.s [f,f,t,t]),o⟩]))
def c99_o4 : CCode:=(.trim [[t,f,f],[f,t,f]] (.ops [
  ⟨S [t,f,t,t],m (.s [t,f,f]),o⟩,
  ⟨S [f,t,t,t],m (.s [f,t,f]),o⟩,
  ⟨S [t,f],m (.s [t,f,t,t]),o⟩,
  ⟨S [f,t],m (.s [f,t,t,t]),o⟩]))
def c99 : CFunc:=({ params:=[[],[f]],results:=[.slot [t,f],.slot [f,t]],shared:=f,body:=(.seq c99_o0
 (.seq (.cond (.c (.bool f)) (.seq c99_o1
 (.seq c99_o2
 .ret)) .skip)
 (.seq c99_o3
 (.seq c99_o4
 .ret)))) })
def c100_o0 : CCode:=(.trim [[],[f]] (.ops [
  ⟨S [t,f],m (.c (.int .i64 0)),o⟩]))
def c100_o1 : CCode:=(.trim [[],[f]] (.ops [
  ⟨S [t,t],m (.s []),o⟩,
  ⟨S [f,f,f],.len 1 (.s [t,t]),o⟩,
  ⟨S [t,f,f],m (.c (.int .i64 0)),o⟩]))
def c100_o2 : CCode:=(.trim [[],[f],[f,f,f],[t,f,f]] (.ops [
  ⟨S [f,t,f],.bin .lss (.s [t,f,f]) (.s [f,f,f]),o⟩]))
def c100_o3 : CCode:=(.trim [[],[f],[f,f,f],[t,f,f]] (.ops [
  ⟨S [t,t,f],m (.s [t,f,f]),o⟩,
  ⟨S [f,t],m (.s [t,t,f]),o⟩]))
def c100_o4 : CCode:=(.trim [[],[f],[f,t],[f,f,f],[t,f,f]] (.ops [
  ⟨S [f,f,t],m (.s [f]),o⟩,
  ⟨S [t,f,t],m (.s []),o⟩,
  ⟨S [f,t,t],m (.s [f,t]),o⟩,
  ⟨S [t,t,t],.idxSl 1 (.s [t,f,t]) (.s [f,t,t]),o⟩,
  ⟨S [f,f,f,f],.load o (.s [t,t,t]),o⟩,
  ⟨S [t,f,f,f],.call f (.s [f,f,t]) [(.s [f,f,f,f])],o⟩]))
def c100_o5 : CCode:=(.trim [[f,t]] (.ops [
  ⟨S [f,t,f,f],m (.s [f,t]),o⟩,
  ⟨S [t,f],m (.s [f,t,f,f]),o⟩]))
def c100_o6 : CCode:=(.trim [[],[f],[f,f,f],[t,f,f]] (.ops [
  ⟨S [t,t,f,f],.bin .add (.s [t,f,f]) (.c (.int .i64 1)),o⟩,
  ⟨S [t,f,f],m (.s [t,t,f,f]),o⟩]))
def c100_b0 : CCode:=((.seq c100_o2
 (.seq (.cond (.s [f,t,f]) .skip (.exit 0))
 (.seq (.block 1 (.seq c100_o3
 (.seq c100_o4
 (.cond (.s [t,f,f,f]) (.seq c100_o5
 .ret) .skip))))
 c100_o6))))
def c100_l0 : CCode:=(.loop [[],[f],[f,f,f],[t,f,f]] c100_b0)
def c100_o7 : CCode:=(.trim [] (.ops [
  ⟨S [t,f],m (.c (.int .i64 (-1))),o⟩]))
def c100 : CFunc:=({ params:=[[],[f]],results:=[.slot [t,f]],shared:=f,body:=(.seq c100_o0
 (.seq (.seq c100_o1
 (.block 0 c100_l0))
 (.seq c100_o7
 .ret))) })
def c101_o0 : CCode:=(.trim [[]] (.ops [
  ⟨S [t],m (.c (.bool f)),o⟩]))
def c101_o1 : CCode:=(.trim [[]] (.ops [
  ⟨S [f,f],m (.s []),o⟩,
  ⟨S [t,f],.call f (.c (.func 60 [])) [(.s [f,f]),(.c (.int .i64 (-1000))),(.c (.int .i64 1000))],o⟩,
  ⟨S [f,t],.un .not (.s [t,f]),o⟩,
  ⟨S [t],m (.s [f,t]),o⟩]))
def c101 : CFunc:=({ params:=[[]],results:=[.slot [t]],shared:=t,body:=(.seq c101_o0
 (.seq c101_o1
 .ret)) })
def c102_o0 : CCode:=(.trim [[],[f]] (.ops [
  ⟨S [t,f],m (.c (.bool f)),o⟩]))
def c102_o1 : CCode:=(.trim [[],[f]] (.ops [
  ⟨S [f,t],m (.s []),o⟩,
  ⟨S [t,t],m (.s [f]),o⟩,
  ⟨S [f,f,f],.call f (.c (.func 111 [])) [(.s [f,t]),(.s [t,t])],o⟩,
  ⟨S [t,f,f],.bin .geq (.s [f,f,f]) (.c (.int .i64 0)),o⟩,
  ⟨S [t,f],m (.s [t,f,f]),o⟩]))
def c102 : CFunc:=({ params:=[[],[f]],results:=[.slot [t,f]],shared:=f,body:=(.seq c102_o0
 (.seq c102_o1
 .ret)) })
def c103_o0 : CCode:=(.trim [[],[f]] (.ops [
  ⟨S [f,f],m (.c (.bool f)),o⟩]))
def c103_o1 : CCode:=(.trim [[],[f]] (.ops [
  ⟨S [t,f],m (.s []),o⟩,
  ⟨S [f,t],.len 1 (.s [t,f]),o⟩,
  ⟨S [t,t],.load o (.s [f]),o⟩,
  ⟨S [f,f,f],.bin .neq (.s [f,t]) (.s [t,t]),o⟩,
  ⟨S [t,f,f],m (.s [f,f,f]),o⟩,
  ⟨S [f,t,f],m (.s []),S ([t,f,f],f)⟩,
  ⟨S [t,t,f],.call f (.c (.func 80 [])) [(.s [f,t,f]),(.c (.func 104 []))],S ([t,f,f],f)⟩,
  ⟨S [f,f,t],.pick (.s [t,f,f]) (.c (.bool t)) (.s [t,t,f]),o⟩,
  ⟨S [f,f],m (.s [f,f,t]),o⟩]))
def c103 : CFunc:=({ params:=[[],[f]],results:=[.slot [f,f]],shared:=t,body:=(.seq c103_o0
 (.seq c103_o1
 .ret)) })
def c104_o0 : CCode:=(.trim [[]] (.ops [
  ⟨S [t],m (.c (.bool f)),o⟩]))
def c104_o1 : CCode:=(.trim [[]] (.ops [
  ⟨S [f,f],m (.s []),o⟩,
  ⟨S [t,f],.call f (.c (.func 60 [])) [(.s [f,f]),(.c (.int .i64 0)),(.c (.int .i64 1))],o⟩,
  ⟨S [f,t],.un .not (.s [t,f]),o⟩,
  ⟨S [t],m (.s [f,t]),o⟩]))
def c104 : CFunc:=({ params:=[[]],results:=[.slot [t]],shared:=t,body:=(.seq c104_o0
 (.seq c104_o1
 .ret)) })
def c105_o0 : CCode:=(.trim [[],[f],[t]] (.ops [
  ⟨S [f,f],.box o (.s []),o⟩]))
def c105_o1 : CCode:=(.trim [[f],[t],[f,f]] (.ops [
  ⟨S [t,f],.alloc o [.nilf],o⟩]))
def c105_o2 : CCode:=(.trim [[f],[t],[f,f],[t,f]] (.ops [
  ⟨S [f,t],.makeFunc 106 [(.s [f]),(.s [f,f]),(.s [t]),(.s [t,f])],o⟩,
  ⟨o,.store 1 (.s [t,f]) (.s [f,t]),o⟩]))
def c105_o3 : CCode:=(.trim [[t,f]] (.ops [
  ⟨S [t,t],.load o (.s [t,f]),o⟩,
  ⟨S [f,f,f],.call f (.s [t,t]) [(.c (.str []))],o⟩]))
def c105 : CFunc:=({ params:=[[],[f],[t]],results:=[],shared:=t,body:=(.seq c105_o0
 (.seq c105_o1
 (.seq c105_o2
 c105_o3))) })
def c106_o0 : CCode:=(.trim [[],[f],[t],[f,f],[t,f]] (.ops [
  ⟨S [t,t],m (.c (.bool f)),o⟩]))
def c106_o1 : CCode:=(.trim [[],[f],[t],[f,f],[t,f]] (.ops [
  ⟨S [t,f,f],m (.s []),o⟩,
  ⟨S [f,t,f],.len 0 (.s [t,f,f]),o⟩,
  ⟨S [t,t,f],.load o (.s [f]),o⟩,
  ⟨S [f,f,t],.bin .eql (.s [f,t,f]) (.s [t,t,f]),o⟩]))
def c106_o2 : CCode:=(.trim [[],[t]] (.ops [
  ⟨S [t,f,t],.load o (.s [t]),o⟩,
  ⟨S [f,t,t],m (.s []),o⟩,
  ⟨S [t,t,t],.call f (.s [t,f,t]) [(.s [f,t,t])],o⟩,
  ⟨S [t,t],m (.s [t,t,t]),o⟩]))
def c106_o3 : CCode:=(.trim [[],[f,f],[t,f]] (.ops [
  ⟨S [f,f,f,f],.load o (.s [f,f]),o⟩,
  ⟨S [t,f,f,f],m (.c (.int .i64 0)),o⟩]))
def c106_o4 : CCode:=(.trim [[],[t,f],[f,f,f,f],[t,f,f,f]] (.ops [
  ⟨S [f,t,f,f],.bin .lss (.s [t,f,f,f]) (.s [f,f,f,f]),o⟩]))
def c106_o5 : CCode:=(.trim [[],[t,f],[f,f,f,f],[t,f,f,f]] (.ops [
  ⟨S [t,t,f,f],m (.s [t,f,f,f]),o⟩,
  ⟨S [f,f,f],m (.s [t,t,f,f]),o⟩]))
def c106_o6 : CCode:=(.trim [[],[t,f],[f,f,f],[f,f,f,f],[t,f,f,f]] (.ops [
  ⟨S [f,f,t,f],.load o (.s [t,f]),o⟩,
  ⟨S [t,f,t,f],m (.s []),o⟩,
  ⟨S [f,t,t,f],m (.s [f,f,f]),o⟩,
  ⟨S [t,t,t,f],.bin .add (.c (.int .i64 48)) (.s [f,t,t,f]),o⟩,
  ⟨S [f,f,f,t],.conv .i32 (.s [t,t,t,f]),o⟩,
  ⟨S [t,f,f,t],.runeStr (.s [f,f,f,t]),o⟩,
  ⟨S [f,t,f,t],.bin .add (.s [t,f,t,f]) (.s [t,f,f,t]),o⟩,
  ⟨S [t,t,f,t],.call f (.s [f,f,t,f]) [(.s [f,t,f,t])],o⟩,
  ⟨S [f,f,t,t],.un .not (.s [t,t,f,t]),o⟩]))
def c106_o7 : CCode:=(.trim [] (.ops [
  ⟨S [t,t],m (.c (.bool f)),o⟩]))
def c106_o8 : CCode:=(.trim [[],[t,f],[f,f,f,f],[t,f,f,f]] (.ops [
  ⟨S [t,f,t,t],.bin .add (.s [t,f,f,f]) (.c (.int .i64 1)),o⟩,
  ⟨S [t,f,f,f],m (.s [t,f,t,t]),o⟩]))
def c106_b0 : CCode:=((.seq c106_o4
 (.seq (.cond (.s [f,t,f,f]) .skip (.exit 0))
 (.seq (.block 1 (.seq c106_o5
 (.seq c106_o6
 (.cond (.s [f,f,t,t]) (.seq c106_o7
 .ret) .skip))))
 c106_o8))))
def c106_l0 : CCode:=(.loop [[],[t,f],[f,f,f,f],[t,f,f,f]] c106_b0)
def c106_o9 : CCode:=(.trim [] (.ops [
  ⟨S [t,t],m (.c (.bool t)),o⟩]))
def c106 : CFunc:=({ params:=[[],[f],[t],[f,f],[t,f]],results:=[.slot [t,t]],shared:=t,body:=(.seq c106_o0
 (.seq (.seq c106_o1
 (.cond (.s [f,f,t]) (.seq c106_o2
 .ret) .skip))
 (.seq (.seq c106_o3
 (.block 0 c106_l0))
 (.seq c106_o9
 .ret)))) })
def c107_o0 : CCode:=(.trim [[],[f]] (.ops [
  ⟨S [t,f],m (.c (.int .i64 0)),o⟩]))
def c107_o1 : CCode:=(.trim [[],[f]] (.ops [
  ⟨S [t,t],m (.s []),o⟩,
  ⟨S [f,f,f],.len 1 (.s [t,t]),o⟩,
  ⟨S [t,f,f],m (.c (.int .i64 0)),o⟩]))
def c107_o2 : CCode:=(.trim [[],[f],[f,f,f],[t,f,f]] (.ops [
  ⟨S [f,t,f],.bin .lss (.s [t,f,f]) (.s [f,f,f]),o⟩]))
def c107_o3 : CCode:=(.trim [[],[f],[f,f,f],[t,f,f]] (.ops [
  ⟨S [t,t,f],m (.s [t,f,f]),o⟩,
  ⟨S [f,t],m (.s [t,t,f]),o⟩]))
def c107_o4 : CCode:=(.trim [[],[f],[f,t],[f,f,f],[t,f,f]] (.ops [
  ⟨S [f,f,t],m (.s [f]),o⟩,
  ⟨S [t,f,t],m (.s []),o⟩,
  ⟨S [f,t,t],m (.s [f,t]),o⟩,
  ⟨S [t,t,t],.idxSl 1 (.s [t,f,t]) (.s [f,t,t]),o⟩,
  ⟨S [f,f,f,f],.load o (.s [t,t,t]),o⟩,
  ⟨S [t,f,f,f],.call f (.s [f,f,t]) [(.s [f,f,f,f])],o⟩]))
def c107_o5 : CCode:=(.trim [[f,t]] (.ops [
  ⟨S [f,t,f,f],m (.s [f,t]),o⟩,
  ⟨S [t,f],m (.s [f,t,f,f]),o⟩]))
def c107_o6 : CCode:=(.trim [[],[f],[f,f,f],[t,f,f]] (.ops [
  ⟨S [t,t,f,f],.bin .add (.s [t,f,f]) (.c (.int .i64 1)),o⟩,
  ⟨S [t,f,f],m (.s [t,t,f,f]),o⟩]))
def c107_b0 : CCode:=((.seq c107_o2
 (.seq (.cond (.s [f,t,f]) .skip (.exit 0))
 (.seq (.block 1 (.seq c107_o3
 (.seq c107_o4
 (.cond (.s [t,f,f,f]) (.seq c107_o5
 .ret) .skip))))
 c107_o6))))
def c107_l0 : CCode:=(.loop [[],[f],[f,f,f],[t,f,f]] c107_b0)
def c107_o7 : CCode:=(.trim [] (.ops [
  ⟨S [t,f],m (.c (.int .i64 (-1))),o⟩]))
def c107 : CFunc:=({ params:=[[],[f]],results:=[.slot [t,f]],shared:=f,body:=(.seq c107_o0
 (.seq (.seq c107_o1
 (.block 0 c107_l0))
 (.seq c107_o7
 .ret))) })
def c108_o0 : CCode:=(.trim [[],[f]] (.ops [
  ⟨S [t,f],m (.c (.int .i64 0)),o⟩]))
def c108_o1 : CCode:=(.trim [[],[f]] (.ops [
  ⟨S [f,t],m (.s []),o⟩,
  ⟨S [t,t],m (.s [f]),o⟩,
  ⟨S [f,f,f],.call f (.c (.func 112 [])) [(.s [f,t]),(.s [t,t]),(.c (.bool t))],o⟩,
  ⟨S [t,f],m (.s [f,f,f]),o⟩]))
def c108 : CFunc:=({ params:=[[],[f]],results:=[.slot [t,f]],shared:=f,body:=(.seq c108_o0
 (.seq c108_o1
 .ret)) })
def c109_o0 : CCode:=(.trim [[],[f]] (.ops [
  ⟨S [t,f],m (.c (.int .u32 0)),o⟩,
  ⟨S [f,t],m (.c (.int .u32 0)),o⟩]))
def c109_o1 : CCode:=(.trim [[],[f]] (.ops [
  ⟨S [f,f,f],m (.s []),o⟩,
  ⟨S [t,f,f],.conv .u64 (.s [f,f,f]),o⟩,
  ⟨S [f,t,f],m (.s [f]),o⟩,
  ⟨S [t,t,f],.conv .u64 (.s [f,t,f]),o⟩,
  ⟨S [f,f,t],.bin .mul (.s [t,f,f]) (.s [t,t,f]),o⟩,
  ⟨S [t,t],m (.s [f,f,t]),o⟩]))
def c109_o2 : CCode:=(.trim [[t,t]] (.ops [
  ⟨S [t,f,t],m (.s [t,t]),o⟩,
  ⟨S [f,t,t],.bin .shr (.s [t,f,t]) (.c (.int .u64 32)),o⟩,
  ⟨S [t,t,t],.conv .u32 (.s [f,t,t]),o⟩,
  ⟨S [f,f,f,f],m (.s [t,t]),o⟩,
  ⟨S [t,f,f,f],.conv .u32 (.s [f,f,f,f]),o⟩,
  ⟨S [t,f],m (.s [t,t,t]),o⟩,
  ⟨S [f,t],m (.s [t,f,f,f]),o⟩]))
def c109 : CFunc:=({ params:=[[],[f]],results:=[.slot [t,f],.slot [f,t]],shared:=f,body:=(.seq c109_o0
 (.seq c109_o1
 (.seq c109_o2
 .ret))) })
def c110_o0 : CCode:=(.trim [[],[f]] (.ops [
  ⟨S [t,f],m (.c (.int .u64 0)),o⟩,
  ⟨S [f,t],m (.c (.int .u64 0)),o⟩]))
def c110_o1 : CCode:=(.trim [[],[f]] (.ops [
  ⟨S [t,t,t],m (.s []),o⟩,
  ⟨S [f,f,f,f],.bin .and (.s [t,t,t]) (.c (.int .u64 4294967295)),o⟩,
  ⟨S [t,t],m (.s [f,f,f,f]),o⟩]))
def c110_o2 : CCode:=(.trim [[],[f],[t,t]] (.ops [
  ⟨S [t,f,f,f],m (.s []),o⟩,
  ⟨S [f,t,f,f],.bin .shr (.s [t,f,f,f]) (.c (.int .u64 32)),o⟩,
  ⟨S [f,f,f],m (.s [f,t,f,f]),o⟩]))
def c110_o3 : CCode:=(.trim [[],[f],[t,t],[f,f,f]] (.ops [
  ⟨S [t,t,f,f],m (.s [f]),o⟩,
  ⟨S [f,f,t,f],.bin .and (.s [t,t,f,f]) (.c (.int .u64 4294967295)),o⟩,
  ⟨S [t,f,f],m (.s [f,f,t,f]),o⟩]))
def c110_o4 : CCode:=(.trim [[],[f],[t,t],[f,f,f],[t,f,f]] (.ops [
  ⟨S [t,f,t,f],m (.s [f]),o⟩,
  ⟨S [f,t,t,f],.bin .shr (.s [t,f,t,f]) (.c (.int .u64 32)),o⟩,
  ⟨S [f,t,f],m (.s [f,t,t,f]),o⟩]))
def c110_o5 : CCode:=(.trim [[],[f],[t,t],[f,f,f],[t,f,f],[f,t,f]] (.ops [
  ⟨S [t,t,t,f],m (.s [t,t]),o⟩,
  ⟨S [f,f,f,t],m (.s [t,f,f]),o⟩,
  ⟨S [t,f,f,t],.bin .mul (.s [t,t,t,f]) (.s [f,f,f,t]),o⟩,
  ⟨S [t,t,f],m (.s [t,f,f,t]),o⟩]))
def c110_o6 : CCode:=(.trim [[],[f],[t,t],[f,f,f],[t,f,f],[f,t,f],[t,t,f]] (.ops [
  ⟨S [f,t,f,t],m (.s [f,f,f]),o⟩,
  ⟨S [t,t,f,t],m (.s [t,f,f]),o⟩,
  ⟨S [f,f,t,t],.bin .mul (.s [f,t,f,t]) (.s [t,t,f,t]),o⟩,
  ⟨S [t,f,t,t],m (.s [t,t,f]),o⟩,
  ⟨S [f,t,t,t],.bin .shr (.s [t,f,t,t]) (.c (.int .u64 32)),o⟩,
  ⟨S [t,t,t,t],.bin .add (.s [f,f,t,t]) (.s [f,t,t,t]),o⟩,
  ⟨S [f,f,t],m (.s [t,t,t,t]),o⟩]))
def c110_o7 : CCode:=(.trim [[],[f],[t,t],[f,f,f],[f,t,f],[f,f,t]] (.ops [
  ⟨S [f,f,f,f,f],m (.s [f,f,t]),o⟩,
  ⟨S [t,f,f,f,f],.bin .and (.s [f,f,f,f,f]) (.c (.int .u64 4294967295)),o⟩,
  ⟨S [t,f,t],m (.s [t,f,f,f,f]),o⟩]))
def c110_o8 : CCode:=(.trim [[],[f],[t,t],[f,f,f],[f,t,f],[f,f,t],[t,f,t]] (.ops [
  ⟨S [f,t,f,f,f],m (.s [f,f,t]),o⟩,
  ⟨S [t,t,f,f,f],.bin .shr (.s [f,t,f,f,f]) (.c (.int .u64 32)),o⟩,
  ⟨S [f,t,t],m (.s [t,t,f,f,f]),o⟩]))
def c110_o9 : CCode:=(.trim [[],[f],[t,t],[f,f,f],[f,t,f],[t,f,t],[f,t,t]] (.ops [
  ⟨S [f,f,t,f,f],m (.s [t,f,t]),o⟩,
  ⟨S [t,f,t,f,f],m (.s [t,t]),o⟩,
  ⟨S [f,t,t,f,f],m (.s [f,t,f]),o⟩,
  ⟨S [t,t,t,f,f],.bin .mul (.s [t,f,t,f,f]) (.s [f,t,t,f,f]),o⟩,
  ⟨S [f,f,f,t,f],.bin .add (.s [f,f,t,f,f]) (.s [t,t,t,f,f]),o⟩,
  ⟨S [t,f,t],m (.s [f,f,f,t,f]),o⟩]))
def c110_o10 : CCode:=(.trim [[],[f],[f,f,f],[f,t,f],[t,f,t],[f,t,t]] (.ops [
  ⟨S [t,f,f,t,f],m (.s [f,f,f]),o⟩,
  ⟨S [f,t,f,t,f],m (.s [f,t,f]),o⟩,
  ⟨S [t,t,f,t,f],.bin .mul (.s [t,f,f,t,f]) (.s [f,t,f,t,f]),o⟩,
  ⟨S [f,f,t,t,f],m (.s [f,t,t]),o⟩,
  ⟨S [t,f,t,t,f],.bin .add (.s [t,t,f,t,f]) (.s [f,f,t,t,f]),o⟩,
  ⟨S [f,t,t,t,f],m (.s [t,f,t]),o⟩,
  ⟨S [t,t,t,t,f],.bin .shr (.s [f,t,t,t,f]) (.c (.int .u64 32)),o⟩,
  ⟨S [f,f,f,f,t],.bin .add (.s [t,f,t,t,f]) (.s [t,t,t,t,f]),o⟩,
  ⟨S [t,f],m (.s [f,f,f,f,t]),o⟩]))
def c110_o11 : CCode:=(.trim [[],[f],[t,f]] (.ops [
  ⟨S [t,f,f,f,t],m (.s []),o⟩,
  ⟨S [f,t,f,f,t],m (.s [f]),o⟩,
  ⟨S [t,t,f,f,t],.bin .mul (.s [t,f,f,f,t]) (.s [f,t,f,f,t]),o⟩,
  ⟨S [f,t],m (.s [t,t,f,f,t]),o⟩]))
def c110 : CFunc:=({ params:=[[],[f]],results:=[.slot [t,f],.slot [f,t]],shared:=f,body:=(.seq c110_o0
 (.seq c110_o1
 (.seq c110_o2
 (.seq c110_o3
 (.seq c110_o4
 (.seq c110_o5
 (.seq c110_o6
 (.seq c110_o7
 (.seq c110_o8
 (.seq c110_o9
 (.seq c110_o10
 (.seq c110_o11
 .ret)))))))))))) })
def c111_o0 : CCode:=(.trim [[],[f]] (.ops [
  ⟨S [t,f],m (.c (.int .i64 0)),o⟩]))
def c111_o1 : CCode:=(.trim [[],[f]] (.ops [
  ⟨S [t,t],m (.s []),o⟩,
  ⟨S [f,f,f],.len 1 (.s [t,t]),o⟩,
  ⟨S [t,f,f],m (.c (.int .i64 0)),o⟩]))
def c111_o2 : CCode:=(.trim [[],[f],[f,f,f],[t,f,f]] (.ops [
  ⟨S [f,t,f],.bin .lss (.s [t,f,f]) (.s [f,f,f]),o⟩]))
def c111_o3 : CCode:=(.trim [[],[f],[f,f,f],[t,f,f]] (.ops [
  ⟨S [t,t,f],m (.s [t,f,f]),o⟩,
  ⟨S [f,t],m (.s [t,t,f]),o⟩]))
def c111_o4 : CCode:=(.trim [[],[f],[f,t],[f,f,f],[t,f,f]] (.ops [
  ⟨S [f,f,t],m (.s [f]),o⟩,
  ⟨S [t,f,t],m (.s []),o⟩,
  ⟨S [f,t,t],m (.s [f,t]),o⟩,
  ⟨S [t,t,t],.idxSl 1 (.s [t,f,t]) (.s [f,t,t]),o⟩,
  ⟨S [f,f,f,f],.load o (.s [t,t,t]),o⟩,
  ⟨S [t,f,f,f],.call f (.s [f,f,t]) [(.s [f,f,f,f])],o⟩]))
def c111_o5 : CCode:=(.trim [[f,t]] (.ops [
  ⟨S [f,t,f,f],m (.s [f,t]),o⟩,
  ⟨S [t,f],m (.s [f,t,f,f]),o⟩]))
def c111_o6 : CCode:=(.trim [[],[f],[f,f,f],[t,f,f]] (.ops [
  ⟨S [t,t,f,f],.bin .add (.s [t,f,f]) (.c (.int .i64 1)),o⟩,
  ⟨S [t,f,f],m (.s [t,t,f,f]),o⟩]))
def c111_b0 : CCode:=((.seq c111_o2
 (.seq (.cond (.s [f,t,f]) .skip (.exit 0))
 (.seq (.block 1 (.seq c111_o3
 (.seq c111_o4
 (.cond (.s [t,f,f,f]) (.seq c111_o5
 .ret) .skip))))
 c111_o6))))
def c111_l0 : CCode:=(.loop [[],[f],[f,f,f],[t,f,f]] c111_b0)
def c111_o7 : CCode:=(.trim [] (.ops [
  ⟨S [t,f],m (.c (.int .i64 (-1))),o⟩]))
def c111 : CFunc:=({ params:=[[],[f]],results:=[.slot [t,f]],shared:=f,body:=(.seq c111_o0
 (.seq (.seq c111_o1
 (.block 0 c111_l0))
 (.seq c111_o7
 .ret))) })
def c112_o0 : CCode:=(.trim [[],[f],[t]] (.ops [
  ⟨S [t,t],m (.c (.int .i64 0)),o⟩]))
def c112_o1 : CCode:=(.trim [[],[f],[t]] (.ops [
  ⟨S [f,t,f],m (.s []),o⟩,
  ⟨S [t,t,f],.rangeS (.s [f,t,f]),o⟩]))
def c112_o2 : CCode:=(.trim [[f],[t],[t,t,f]] (.ops [
  ⟨S [f,f,t],.next (.s [t,t,f]),o⟩,
  ⟨S [t,f,t],.extract 0 (.s [f,f,t]),o⟩]))
def c112_o3 : CCode:=(.trim [[f],[t],[t,t,f],[f,f,t]] (.ops [
  ⟨S [f,t,t],.extract 1 (.s [f,f,t]),o⟩,
  ⟨S [t,t,t],.extract 2 (.s [f,f,t]),o⟩,
  ⟨S [f,f,f],m (.s [f,t,t]),o⟩,
  ⟨S [t,f,f],m (.s [t,t,t]),o⟩]))
def c112_o4 : CCode:=(.trim [[f],[t],[f,f,f],[t,f,f],[t,t,f]] (.ops [
  ⟨S [f,f,f,f],m (.s [f]),o⟩,
  ⟨S [t,f,f,f],m (.s [t,f,f]),o⟩,
  ⟨S [f,t,f,f],.call f (.s [f,f,f,f]) [(.s [t,f,f,f])],o⟩,
  ⟨S [t,t,f,f],m (.s [t]),o⟩,
  ⟨S [f,f,t,f],.eqv 0 f (.s [f,t,f,f]) (.s [t,t,f,f]),o⟩]))
def c112_o5 : CCode:=(.trim [[f,f,f]] (.ops [
  ⟨S [t,f,t,f],m (.s [f,f,f]),o⟩,
  ⟨S [t,t],m (.s [t,f,t,f]),o⟩]))
def c112_b0 : CCode:=((.seq c112_o2
 (.seq (.cond (.s [t,f,t]) .skip (.exit 0))
 (.block 1 (.seq c112_o3
 (.seq c112_o4
 (.cond (.s [f,f,t,f]) (.seq c112_o5
 .ret) .skip)))))))
def c112_l0 : CCode:=(.loop [[f],[t],[t,t,f]] c112_b0)
def c112_o6 : CCode:=(.trim [] (.ops [
  ⟨S [t,t],m (.c (.int .i64 (-1))),o⟩]))
def c112 : CFunc:=({ params:=[[],[f],[t]],results:=[.slot [t,t]],shared:=f,body:=(.seq c112_o0
 (.seq (.seq c112_o1
 (.block 0 c112_l0))
 (.seq c112_o6
 .ret))) })
end Go.Proofs.Ytljgfdamdcikgaa.Ev
