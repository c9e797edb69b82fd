/-
  The code of the program's functions as the evaluator takes it,printed by wip/tool/emit.py. SCheck ties each to the translation. No condition.
-/
import Derived.Test.YtljgfdamdcikgaaEv
namespace Go.Proofs.Ytljgfdamdcikgaa.Ev
open Go Go.AEv
set_option linter.unusedVariables false
private abbrev r:=List.range
def c85_o0 : CCode:=(fun (f t : Bool) => (.trim [[],[f]] (.ops [
  ⟨some [t,f],.move (.c (.int .i64 0)),none⟩]) : CCode)) false true
def c85_o1 : CCode:=(fun (f t : Bool) => (.trim [[],[f]] (.ops [
  ⟨some [f,t],.move (.c (.int .i64 0)),none⟩]) : CCode)) false true
def c85_o2 : CCode:=(fun (f t : Bool) => (.trim [[],[f],[f,t]] (.ops [
  ⟨some [f,f,f],.move (.s [f]),none⟩,
  ⟨some [t,f,f],.len 0 (.s [f,f,f]),none⟩,
  ⟨some [f,t,f],.move (.c (.int .i64 0)),none⟩]) : CCode)) false true
def c85_o3 : CCode:=(fun (f t : Bool) => (.trim [[],[f],[f,t],[t,f,f],[f,t,f]] (.ops [
  ⟨some [t,t,f],.bin .lss (.s [f,t,f]) (.s [t,f,f]),none⟩]) : CCode)) false true
def c85_o4 : CCode:=(fun (f t : Bool) => (.trim [[],[f],[f,t],[t,f,f],[f,t,f]] (.ops [
  ⟨some [f,f,t],.move (.s [f,t,f]),none⟩,
  ⟨some [t,t],.move (.s [f,f,t]),none⟩]) : CCode)) false true
def c85_o5 : CCode:=(fun (f t : Bool) => (.trim [[],[f],[f,t],[t,t],[t,f,f],[f,t,f]] (.draw 0 [
  ⟨some [t,f,t],.move (.s [f,t]),none⟩,
  ⟨some [f,t,t],.move (.s []),none⟩,
  ⟨some [t,t,t],.move (.s [t,t]),none⟩,
  ⟨some [f,f,f,f],.idxSl 1 (.s [f,t,t]) (.s [t,t,t]),none⟩,
  ⟨some [t,f,f,f],.load none (.s [f,f,f,f]),none⟩,
  ⟨some [f,t,f,f],.move (.s [f]),none⟩,
  ⟨some [t,t,f,f],.move (.s [t,t]),none⟩,
  ⟨some [f,f,t,f],.idxStr (.s [f,t,f,f]) (.s [t,t,f,f]),none⟩,
  ⟨some [t,f,t,f],.bin .sub (.s [f,f,t,f]) (.c (.int .u8 48)),none⟩,
  ⟨some [f,t,t,f],.idxSl 1 (.s [t,f,f,f]) (.s [t,f,t,f]),none⟩,
  ⟨some [t,t,t,f],.load none (.s [f,t,t,f]),none⟩,
  ⟨some [f,f,f,t],.bin .add (.s [t,f,t]) (.s [t,t,t,f]),none⟩,
  ⟨some [f,t],.move (.s [f,f,f,t]),none⟩]
  [] [[],[],[],[1,2],[1,2,3],[],[],[5,6],[5,6,7],[1,2,3,4,5,6,7,8],[1,2,3,4,5,6,7,8,9],(r 11),(r 12)]) : CCode)) false true
def c85_o6 : CCode:=(fun (f t : Bool) => (.trim [[],[f],[f,t],[t,f,f],[f,t,f]] (.ops [
  ⟨some [t,f,f,t],.bin .add (.s [f,t,f]) (.c (.int .i64 1)),none⟩,
  ⟨some [f,t,f],.move (.s [t,f,f,t]),none⟩]) : CCode)) false true
def c85_b0 : CCode:=(fun (f t : Bool) => ((.seq c85_o3
 (.seq (.cond (.s [t,t,f]) .skip (.exit 0))
 (.seq (.block 1 (.seq c85_o4
 c85_o5))
 c85_o6))) : CCode)) false true
def c85_l0 : CCode:=(fun (f t : Bool) => (.loop [[],[f],[f,t],[t,f,f],[f,t,f]] c85_b0 : CCode)) false true
def c85_o7 : CCode:=(fun (f t : Bool) => (.trim [[f,t]] (.ops [
  ⟨some [f,t,f,t],.move (.s [f,t]),none⟩,
  ⟨some [t,f],.move (.s [f,t,f,t]),none⟩]) : CCode)) false true
def c85 : CFunc:=(fun (f t : Bool) => ({ params:=[[],[f]],results:=[.slot [t,f]],shared:=f,body:=(.seq c85_o0
 (.seq c85_o1
 (.seq (.seq c85_o2
 (.block 0 c85_l0))
 (.seq c85_o7
 .ret)))) } : CFunc)) false true
def c86_o0 : CCode:=(fun (f t : Bool) => (.trim [[],[f]] (.ops [
  ⟨some [t,f],.move (.c (.int .i64 0)),none⟩]) : CCode)) false true
def c86_o1 : CCode:=(fun (f t : Bool) => (.trim [[],[f]] (.ops [
  ⟨some [f,t],.move (.c (.int .i64 0)),none⟩]) : CCode)) false true
def c86_o2 : CCode:=(fun (f t : Bool) => (.trim [[],[f],[f,t]] (.ops [
  ⟨some [t,t],.move (.c (.int .i64 0)),none⟩]) : CCode)) false true
def c86_o3 : CCode:=(fun (f t : Bool) => (.trim [[],[f],[f,t],[t,t]] (.ops [
  ⟨some [f,f,f],.move (.s [t,t]),none⟩,
  ⟨some [t,f,f],.move (.s [f]),none⟩,
  ⟨some [f,t,f],.len 0 (.s [t,f,f]),none⟩,
  ⟨some [t,t,f],.bin .lss (.s [f,f,f]) (.s [f,t,f]),none⟩]) : CCode)) false true
def c86_o4 : CCode:=(fun (f t : Bool) => (.trim [[],[f],[f,t],[t,t]] (.draw 0 [
  ⟨some [f,t,t],.move (.s [f,t]),none⟩,
  ⟨some [t,t,t],.move (.s []),none⟩,
  ⟨some [f,f,f,f],.move (.s [t,t]),none⟩,
  ⟨some [t,f,f,f],.idxSl 1 (.s [t,t,t]) (.s [f,f,f,f]),none⟩,
  ⟨some [f,t,f,f],.load none (.s [t,f,f,f]),none⟩,
  ⟨some [t,t,f,f],.move (.s [f]),none⟩,
  ⟨some [f,f,t,f],.move (.s [t,t]),none⟩,
  ⟨some [t,f,t,f],.idxStr (.s [t,t,f,f]) (.s [f,f,t,f]),none⟩,
  ⟨some [f,t,t,f],.bin .sub (.s [t,f,t,f]) (.c (.int .u8 48)),none⟩,
  ⟨some [t,t,t,f],.idxSl 1 (.s [f,t,f,f]) (.s [f,t,t,f]),none⟩,
  ⟨some [f,f,f,t],.load none (.s [t,t,t,f]),none⟩,
  ⟨some [t,f,f,t],.bin .add (.s [f,t,t]) (.s [f,f,f,t]),none⟩,
  ⟨some [f,t],.move (.s [t,f,f,t]),none⟩]
  [] [[],[],[],[1,2],[1,2,3],[],[],[5,6],[5,6,7],[1,2,3,4,5,6,7,8],[1,2,3,4,5,6,7,8,9],(r 11),(r 12)]) : CCode)) false true
def c86_o5 : CCode:=(fun (f t : Bool) => (.trim [[],[f],[f,t],[t,t]] (.ops [
  ⟨some [f,f,t],.move (.s [t,t]),none⟩,
  ⟨some [t,f,t],.bin .add (.s [f,f,t]) (.c (.int .i64 1)),none⟩,
  ⟨some [t,t],.move (.s [t,f,t]),none⟩]) : CCode)) false true
def c86_b0 : CCode:=(fun (f t : Bool) => ((.seq (.seq c86_o3
 (.cond (.s [t,t,f]) .skip (.exit 0)))
 (.seq (.block 1 c86_o4)
 c86_o5)) : CCode)) false true
def c86_l0 : CCode:=(fun (f t : Bool) => (.loop [[],[f],[f,t],[t,t]] c86_b0 : CCode)) false true
def c86_o6 : CCode:=(fun (f t : Bool) => (.trim [[f,t]] (.ops [
  ⟨some [f,t,f,t],.move (.s [f,t]),none⟩,
  ⟨some [t,f],.move (.s [f,t,f,t]),none⟩]) : CCode)) false true
def c86 : CFunc:=(fun (f t : Bool) => ({ params:=[[],[f]],results:=[.slot [t,f]],shared:=f,body:=(.seq c86_o0
 (.seq c86_o1
 (.seq (.seq c86_o2
 (.block 0 c86_l0))
 (.seq c86_o6
 .ret)))) } : CFunc)) false true
def c87_o0 : CCode:=(fun (f t : Bool) => (.trim [[],[f]] (.ops [
  ⟨some [f,f],.box none (.s [f]),none⟩,
  ⟨some [t,f],.move (.c (.bool f)),none⟩]) : CCode)) false true
def c87_o1 : CCode:=(fun (f t : Bool) => (.trim [[],[f,f]] (.ops [
  ⟨some [f,t],.move (.s []),none⟩,
  ⟨some [t,t],.len 1 (.s [f,t]),none⟩,
  ⟨some [f,f,f],.load none (.s [f,f]),none⟩,
  ⟨some [t,f,f],.bin .eql (.s [t,t]) (.s [f,f,f]),none⟩,
  ⟨some [f,t,f],.move (.s [t,f,f]),none⟩,
  ⟨some [t,t,f],.move (.s []),some ([f,t,f],t)⟩,
  ⟨some [f,f,t],.makeFunc 103 [(.s [f,f])],some ([f,t,f],t)⟩,
  ⟨some [t,f,t],.call f (.c (.func 102 [])) [(.s [t,t,f]),(.s [f,f,t])],some ([f,t,f],t)⟩,
  ⟨some [f,t,t],.un .not (.s [t,f,t]),some ([f,t,f],t)⟩,
  ⟨some [t,t,t],.pick (.s [f,t,f]) (.s [f,t,t]) (.c (.bool f)),none⟩,
  ⟨some [t,f],.move (.s [t,t,t]),none⟩]) : CCode)) false true
def c87 : CFunc:=(fun (f t : Bool) => ({ params:=[[],[f]],results:=[.slot [t,f]],shared:=f,body:=(.seq c87_o0
 (.seq c87_o1
 .ret)) } : CFunc)) false true
def c88_o0 : CCode:=(fun (f t : Bool) => (.trim [[],[f]] (.ops [
  ⟨some [t],.box none (.s []),none⟩,
  ⟨some [f,f],.box none (.s [f]),none⟩,
  ⟨some [t,f],.move (.c (.nilf)),none⟩]) : CCode)) false true
def c88_o1 : CCode:=(fun (f t : Bool) => (.trim [[t],[f,f]] (.ops [
  ⟨some [f,t],.makeFunc 105 [(.s [f,f]),(.s [t])],none⟩,
  ⟨some [t,f],.move (.s [f,t]),none⟩]) : CCode)) false true
def c88 : CFunc:=(fun (f t : Bool) => ({ params:=[[],[f]],results:=[.slot [t,f]],shared:=f,body:=(.seq c88_o0
 (.seq c88_o1
 .ret)) } : CFunc)) false true
def c89_o0 : CCode:=(fun (f t : Bool) => (.trim [[],[f]] (.ops [
  ⟨some [t],.box none (.s []),none⟩,
  ⟨some [t,f],.move (.c (.bool f)),none⟩]) : CCode)) false true
def c89_o1 : CCode:=(fun (f t : Bool) => (.trim [[f],[t]] (.ops [
  ⟨some [f,t],.move (.c (.int .i64 1)),none⟩]) : CCode)) false true
def c89_o2 : CCode:=(fun (f t : Bool) => (.trim [[f],[t],[f,t]] (.ops [
  ⟨some [t,t],.move (.s [f,t]),none⟩,
  ⟨some [f,f,f],.move (.s [f]),none⟩,
  ⟨some [t,f,f],.len 0 (.s [f,f,f]),none⟩,
  ⟨some [f,t,f],.bin .lss (.s [t,t]) (.s [t,f,f]),none⟩]) : CCode)) false true
def c89_o3 : CCode:=(fun (f t : Bool) => (.trim [[f],[t],[f,t]] (.draw 0 [
  ⟨some [t,f,t],.fieldAddr 1 (.s [t]),none⟩,
  ⟨some [f,t,t],.load none (.s [t,f,t]),none⟩,
  ⟨some [t,t,t],.move (.s [f]),none⟩,
  ⟨some [f,f,f,f],.move (.s [f,t]),none⟩,
  ⟨some [t,f,f,f],.bin .sub (.s [f,f,f,f]) (.c (.int .i64 1)),none⟩,
  ⟨some [f,t,f,f],.idxStr (.s [t,t,t]) (.s [t,f,f,f]),none⟩,
  ⟨some [t,t,f,f],.bin .sub (.s [f,t,f,f]) (.c (.int .u8 48)),none⟩,
  ⟨some [f,f,t,f],.idxSl 1 (.s [f,t,t]) (.s [t,t,f,f]),none⟩,
  ⟨some [t,f,t,f],.load none (.s [f,f,t,f]),none⟩,
  ⟨some [f,t,t,f],.move (.s [f]),none⟩,
  ⟨some [t,t,t,f],.move (.s [f,t]),none⟩,
  ⟨some [f,f,f,t],.idxStr (.s [f,t,t,f]) (.s [t,t,t,f]),none⟩,
  ⟨some [t,f,f,t],.bin .sub (.s [f,f,f,t]) (.c (.int .u8 48)),none⟩,
  ⟨some [f,t,f,t],.idxSl 1 (.s [t,f,t,f]) (.s [t,f,f,t]),none⟩,
  ⟨some [t,t,f,t],.load none (.s [f,t,f,t]),none⟩,
  ⟨some [f,f,t,t],.bin .eql (.s [t,t,f,t]) (.c (.int .i64 0)),none⟩]
  [] [[],[0],[],[],[3],[2,3,4],[2,3,4,5],(r 7),(r 8),[],[],[9,10],[9,10,11],(r 13),(r 14),(r 15)]) : CCode)) false true
def c89_o4 : CCode:=(fun (f t : Bool) => (.trim [] (.ops [
  ⟨some [t,f],.move (.c (.bool f)),none⟩]) : CCode)) false true
def c89_o5 : CCode:=(fun (f t : Bool) => (.trim [[f],[t],[f,t]] (.ops [
  ⟨some [t,t,f],.move (.s [f,t]),none⟩,
  ⟨some [f,f,t],.bin .add (.s [t,t,f]) (.c (.int .i64 1)),none⟩,
  ⟨some [f,t],.move (.s [f,f,t]),none⟩]) : CCode)) false true
def c89_b0 : CCode:=(fun (f t : Bool) => ((.seq (.seq c89_o2
 (.cond (.s [f,t,f]) .skip (.exit 0)))
 (.seq (.block 1 (.seq c89_o3
 (.cond (.s [f,f,t,t]) (.seq c89_o4
 .ret) .skip)))
 c89_o5)) : CCode)) false true
def c89_l0 : CCode:=(fun (f t : Bool) => (.loop [[f],[t],[f,t]] c89_b0 : CCode)) false true
def c89_o6 : CCode:=(fun (f t : Bool) => (.trim [] (.ops [
  ⟨some [t,f],.move (.c (.bool t)),none⟩]) : CCode)) false true
def c89 : CFunc:=(fun (f t : Bool) => ({ params:=[[],[f]],results:=[.slot [t,f]],shared:=f,body:=(.seq c89_o0
 (.seq (.seq c89_o1
 (.block 0 c89_l0))
 (.seq c89_o6
 .ret))) } : CFunc)) false true
def c90_o0 : CCode:=(fun (f t : Bool) => (.trim [[],[f],[t]] (.ops [
  ⟨some [f,f],.box none (.s []),none⟩,
  ⟨some [t,t],.move (.c (.bool f)),none⟩]) : CCode)) false true
def c90_o1 : CCode:=(fun (f t : Bool) => (.trim [[f],[t],[f,f]] (.ops [
  ⟨some [t,f,f],.move (.s [f]),none⟩,
  ⟨some [f,t,f],.len 0 (.s [t,f,f]),none⟩,
  ⟨some [t,t,f],.move (.c (.int .i64 0)),none⟩]) : CCode)) false true
def c90_o2 : CCode:=(fun (f t : Bool) => (.trim [[f],[t],[f,f],[f,t,f],[t,t,f]] (.ops [
  ⟨some [f,f,t],.bin .lss (.s [t,t,f]) (.s [f,t,f]),none⟩]) : CCode)) false true
def c90_o3 : CCode:=(fun (f t : Bool) => (.trim [[f],[t],[f,f],[f,t,f],[t,t,f]] (.ops [
  ⟨some [t,f,t],.move (.s [t,t,f]),none⟩,
  ⟨some [f,f,f],.move (.s [t,f,t]),none⟩]) : CCode)) false true
def c90_o4 : CCode:=(fun (f t : Bool) => (.trim [[f],[t],[f,f],[f,f,f],[f,t,f],[t,t,f]] (.draw 0 [
  ⟨some [f,t,t],.fieldAddr 2 (.s [f,f]),none⟩,
  ⟨some [t,t,t],.load none (.s [f,t,t]),none⟩,
  ⟨some [f,f,f,f],.move (.s [f]),none⟩,
  ⟨some [t,f,f,f],.move (.s [f,f,f]),none⟩,
  ⟨some [f,t,f,f],.idxStr (.s [f,f,f,f]) (.s [t,f,f,f]),none⟩,
  ⟨some [t,t,f,f],.bin .sub (.s [f,t,f,f]) (.c (.int .u8 48)),none⟩,
  ⟨some [f,f,t,f],.idxSl 1 (.s [t,t,t]) (.s [t,t,f,f]),none⟩,
  ⟨some [t,f,t,f],.load none (.s [f,f,t,f]),none⟩,
  ⟨some [f,t,t,f],.move (.s [t]),none⟩,
  ⟨some [t,t,t,f],.move (.s [f,f,f]),none⟩,
  ⟨some [f,f,f,t],.idxStr (.s [f,t,t,f]) (.s [t,t,t,f]),none⟩,
  ⟨some [t,f,f,t],.bin .sub (.s [f,f,f,t]) (.c (.int .u8 48)),none⟩,
  ⟨some [f,t,f,t],.idxSl 1 (.s [t,f,t,f]) (.s [t,f,f,t]),none⟩,
  ⟨some [t,t,f,t],.load none (.s [f,t,f,t]),none⟩,
  ⟨some [f,f,t,t],.bin .eql (.s [t,t,f,t]) (.c (.int .i64 0)),none⟩]
  [] [[],[0],[],[],[2,3],[2,3,4],(r 6),(r 7),[],[],[8,9],[8,9,10],(r 12),(r 13),(r 14)]) : CCode)) false true
def c90_o5 : CCode:=(fun (f t : Bool) => (.trim [] (.ops [
  ⟨some [t,t],.move (.c (.bool f)),none⟩]) : CCode)) false true
def c90_o6 : CCode:=(fun (f t : Bool) => (.trim [[f],[t],[f,f],[f,t,f],[t,t,f]] (.ops [
  ⟨some [t,f,t,t],.bin .add (.s [t,t,f]) (.c (.int .i64 1)),none⟩,
  ⟨some [t,t,f],.move (.s [t,f,t,t]),none⟩]) : CCode)) false true
def c90_b0 : CCode:=(fun (f t : Bool) => ((.seq c90_o2
 (.seq (.cond (.s [f,f,t]) .skip (.exit 0))
 (.seq (.block 1 (.seq c90_o3
 (.seq c90_o4
 (.cond (.s [f,f,t,t]) (.seq c90_o5
 .ret) .skip))))
 c90_o6))) : CCode)) false true
def c90_l0 : CCode:=(fun (f t : Bool) => (.loop [[f],[t],[f,f],[f,t,f],[t,t,f]] c90_b0 : CCode)) false true
def c90_o7 : CCode:=(fun (f t : Bool) => (.trim [] (.ops [
  ⟨some [t,t],.move (.c (.bool t)),none⟩]) : CCode)) false true
def c90 : CFunc:=(fun (f t : Bool) => ({ params:=[[],[f],[t]],results:=[.slot [t,t]],shared:=f,body:=(.seq c90_o0
 (.seq (.seq c90_o1
 (.block 0 c90_l0))
 (.seq c90_o7
 .ret))) } : CFunc)) false true
def c91_o0 : CCode:=(fun (f t : Bool) => (.trim [[],[f]] (.ops [
  ⟨some [t,f],.move (.c (.nils)),none⟩]) : CCode)) false true
def c91_o1 : CCode:=(fun (f t : Bool) => (.trim [[],[f]] (.ops [
  ⟨some [f,t,f],.move (.s [f]),none⟩,
  ⟨some [t,t,f],.bin .lss (.s [f,t,f]) (.c (.int .i64 0)),none⟩]) : CCode)) false true
def c91_o2 : CCode:=(fun (f t : Bool) => (.trim [[],[f]] (.ops [
  ⟨some [f,f,t],.iface 9 (.c (.str [99,97,110,110,111,116,32,98,101,32,110,101,103,97,116,105,118,101])),none⟩,
  ⟨none,.fail,none⟩]) : CCode)) false true
def c91_o3 : CCode:=(fun (f t : Bool) => (.trim [[],[f]] (.ops [
  ⟨some [f,t,t],.move (.s []),none⟩,
  ⟨some [t,t,t],.len 1 (.s [f,t,t]),none⟩,
  ⟨some [f,f,f,f],.conv .u64 (.s [t,t,t]),none⟩,
  ⟨some [t,f,f,f],.move (.s [f]),none⟩,
  ⟨some [f,t,f,f],.conv .u64 (.s [t,f,f,f]),none⟩,
  ⟨some [t,t,f,f],.call f (.c (.func 99 [])) [(.s [f,f,f,f]),(.s [f,t,f,f])],none⟩,
  ⟨some [t,f,t],.move (.s [t,t,f,f]),none⟩,
  ⟨some [f,f,t,f],.extract 0 (.s [t,f,t]),none⟩,
  ⟨some [t,f,t,f],.extract 1 (.s [t,f,t]),none⟩,
  ⟨some [f,t],.move (.s [f,f,t,f]),none⟩,
  ⟨some [t,t],.move (.s [t,f,t,f]),none⟩]) : CCode)) false true
def c91_o4 : CCode:=(fun (f t : Bool) => (.trim [[],[f,t],[t,t]] (.ops [
  ⟨some [f,t,t,f],.move (.s [f,t]),none⟩,
  ⟨some [t,t,t,f],.bin .gtr (.s [f,t,t,f]) (.c (.int .u64 0)),none⟩,
  ⟨some [f,f,f,t],.move (.s [t,t,t,f]),none⟩,
  ⟨some [t,f,f,t],.move (.s [t,t]),some ([f,f,f,t],f)⟩,
  ⟨some [f,t,f,t],.bin .gtr (.s [t,f,f,t]) (.c (.int .u64 9223372036854775807)),some ([f,f,f,t],f)⟩,
  ⟨some [t,t,f,t],.pick (.s [f,f,f,t]) (.c (.bool t)) (.s [f,t,f,t]),none⟩]) : CCode)) false true
def c91_o5 : CCode:=(fun (f t : Bool) => (.trim [[],[t,t]] (.ops [
  ⟨some [f,f,t,t],.iface 9 (.c (.str [116,104,101,32,114,101,115,117,108,116,32,111,102,32,40,108,101,110,40,120,41,32,42,32,99,111,117,110,116,41,32,111,118,101,114,102,108,111,119,115])),none⟩,
  ⟨none,.fail,none⟩]) : CCode)) false true
def c91_o6 : CCode:=(fun (f t : Bool) => (.trim [[],[t,t]] (.ops [
  ⟨some [t,f,t,t],.move (.s [t,t]),none⟩,
  ⟨some [f,t,t,t],.conv .i64 (.s [t,f,t,t]),none⟩,
  ⟨some [t,t,t,t],.makeSlice none 1 8 [.int .i64 0] (.s [f,t,t,t]),none⟩,
  ⟨some [f,f,f],.move (.s [t,t,t,t]),none⟩]) : CCode)) false true
def c91_o7 : CCode:=(fun (f t : Bool) => (.trim [[],[f,f,f]] (.ops [
  ⟨some [f,f,f,f,f],.move (.s [f,f,f]),none⟩,
  ⟨some [t,f,f,f,f],.move (.s []),none⟩,
  ⟨some [f,t,f,f,f],.copy 1 (.s [f,f,f,f,f]) (.s [t,f,f,f,f]),none⟩,
  ⟨some [t,f,f],.move (.s [f,t,f,f,f]),none⟩]) : CCode)) false true
def c91_o8 : CCode:=(fun (f t : Bool) => (.trim [[f,f,f],[t,f,f]] (.ops [
  ⟨some [t,t,f,f,f],.move (.s [t,f,f]),none⟩,
  ⟨some [f,f,t,f,f],.move (.s [f,f,f]),none⟩,
  ⟨some [t,f,t,f,f],.len 1 (.s [f,f,t,f,f]),none⟩,
  ⟨some [f,t,t,f,f],.bin .lss (.s [t,t,f,f,f]) (.s [t,f,t,f,f]),none⟩]) : CCode)) false true
def c91_o9 : CCode:=(fun (f t : Bool) => (.trim [[f,f,f],[t,f,f]] (.draw 0 [
  ⟨some [t,t,t,f,f],.move (.s [t,f,f]),none⟩,
  ⟨some [f,f,f,t,f],.move (.s [f,f,f]),none⟩,
  ⟨some [t,f,f,t,f],.move (.s [t,f,f]),none⟩,
  ⟨some [f,t,f,t,f],.slSl 1 (.s [f,f,f,t,f]) (some (.s [t,f,f,t,f])) none,none⟩,
  ⟨some [t,t,f,t,f],.move (.s [f,f,f]),none⟩,
  ⟨some [f,f,t,t,f],.move (.s [t,f,f]),none⟩,
  ⟨some [t,f,t,t,f],.slSl 1 (.s [t,t,f,t,f]) none (some (.s [f,f,t,t,f])),none⟩,
  ⟨some [f,t,t,t,f],.copy 1 (.s [f,t,f,t,f]) (.s [t,f,t,t,f]),none⟩,
  ⟨some [t,t,t,t,f],.bin .add (.s [t,t,t,f,f]) (.s [f,t,t,t,f]),none⟩,
  ⟨some [t,f,f],.move (.s [t,t,t,t,f]),none⟩]
  [(3,6)] [[],[],[],[1,2],[],[],[4,5],[1,2,3,4,5,6],(r 8),(r 9)]) : CCode)) false true
def c91_b0 : CCode:=(fun (f t : Bool) => ((.seq (.seq c91_o8
 (.cond (.s [f,t,t,f,f]) .skip (.exit 0)))
 (.block 1 c91_o9)) : CCode)) false true
def c91_l0 : CCode:=(fun (f t : Bool) => (.loop [[f,f,f],[t,f,f]] c91_b0 : CCode)) false true
def c91_o10 : CCode:=(fun (f t : Bool) => (.trim [[f,f,f]] (.ops [
  ⟨some [f,f,f,f,t],.move (.s [f,f,f]),none⟩,
  ⟨some [t,f],.move (.s [f,f,f,f,t]),none⟩]) : CCode)) false true
def c91 : CFunc:=(fun (f t : Bool) => ({ params:=[[],[f]],results:=[.slot [t,f]],shared:=f,body:=(.seq c91_o0
 (.seq (.seq c91_o1
 (.cond (.s [t,t,f]) c91_o2 .skip))
 (.seq c91_o3
 (.seq (.seq c91_o4
 (.cond (.s [t,t,f,t]) c91_o5 .skip))
 (.seq c91_o6
 (.seq c91_o7
 (.seq (.block 0 c91_l0)
 (.seq c91_o10
 .ret)))))))) } : CFunc)) false true
def c92_o0 : CCode:=(fun (f t : Bool) => (.trim [[]] (.ops [
  ⟨some [t],.move (.c (.nils)),none⟩]) : CCode)) false true
def c92_o1 : CCode:=(fun (f t : Bool) => (.trim [[]] (.ops [
  ⟨some [f,f],.move (.c (.nils)),none⟩]) : CCode)) false true
def c92_o2 : CCode:=(fun (f t : Bool) => (.trim [[],[f,f]] (.ops [
  ⟨some [t,f],.move (.s [f,f]),none⟩,
  ⟨some [f,t],.move (.s []),none⟩,
  ⟨some [t,t],.move (.s []),none⟩,
  ⟨some [f,f,f],.len 1 (.s [t,t]),none⟩,
  ⟨some [t,f,f],.minmax f (.s [f,f,f]) (.c (.int .i64 6)),none⟩,
  ⟨some [f,t,f],.slSl 1 (.s [f,t]) none (some (.s [t,f,f])),none⟩,
  ⟨some [t,t,f],.append none 1 8 (.s [t,f]) (.s [f,t,f]),none⟩,
  ⟨some [t],.move (.s [t,t,f]),none⟩]) : CCode)) false true
def c92 : CFunc:=(fun (f t : Bool) => ({ params:=[[]],results:=[.slot [t]],shared:=f,body:=(.seq c92_o0
 (.seq c92_o1
 (.seq c92_o2
 .ret))) } : CFunc)) false true
def c98_o0 : CCode:=(fun (f t : Bool) => (.trim [[],[f]] (.ops [
  ⟨some [f,f],.move (.c (.bool f)),none⟩]) : CCode)) false true
def c98_o1 : CCode:=(fun (f t : Bool) => (.trim [[],[f]] (.ops [
  ⟨some [t,f],.move (.s []),none⟩,
  ⟨some [f,t],.conv .i64 (.s [t,f]),none⟩,
  ⟨some [t,t],.bin .sub (.s [f,t]) (.c (.int .i64 48)),none⟩,
  ⟨some [f,f,f],.fieldAddr 0 (.s [f]),none⟩,
  ⟨some [t,f,f],.load none (.s [f,f,f]),none⟩,
  ⟨some [f,t,f],.bin .sub (.s [t,f,f]) (.c (.int .i64 1)),none⟩,
  ⟨some [t,t,f],.call f (.c (.func 60 [])) [(.s [t,t]),(.c (.int .i64 0)),(.s [f,t,f])],none⟩,
  ⟨some [f,f,t],.un .not (.s [t,t,f]),none⟩,
  ⟨some [f,f],.move (.s [f,f,t]),none⟩]) : CCode)) false true
def c98 : CFunc:=(fun (f t : Bool) => ({ params:=[[],[f]],results:=[.slot [f,f]],shared:=t,body:=(.seq c98_o0
 (.seq c98_o1
 .ret)) } : CFunc)) false true
def c99_o0 : CCode:=(fun (f t : Bool) => (.trim [[],[f]] (.ops [
  ⟨some [t,f],.move (.c (.int .u64 0)),none⟩,
  ⟨some [f,t],.move (.c (.int .u64 0)),none⟩]) : CCode)) false true
def c99_o1 : CCode:=(fun (f t : Bool) => (.trim [[],[f]] (.ops [
  ⟨some [f,f,t],.move (.s []),none⟩,
  ⟨some [t,f,t],.conv .u32 (.s [f,f,t]),none⟩,
  ⟨some [f,t,t],.move (.s [f]),none⟩,
  ⟨some [t,t,t],.conv .u32 (.s [f,t,t]),none⟩,
  ⟨some [f,f,f,f],.call f (.c (.func 109 [])) [(.s [t,f,t]),(.s [t,t,t])],none⟩,
  ⟨some [t,t,f],.move (.s [f,f,f,f]),none⟩,
  ⟨some [t,f,f,f],.extract 0 (.s [t,t,f]),none⟩,
  ⟨some [f,t,f,f],.extract 1 (.s [t,t,f]),none⟩,
  ⟨some [t,t],.move (.s [t,f,f,f]),none⟩,
  ⟨some [f,f,f],.move (.s [f,t,f,f]),none⟩]) : CCode)) false true
def c99_o2 : CCode:=(fun (f t : Bool) => (.trim [[t,t],[f,f,f]] (.ops [
  ⟨some [t,t,f,f],.move (.s [t,t]),none⟩,
  ⟨some [f,f,t,f],.conv .u64 (.s [t,t,f,f]),none⟩,
  ⟨some [t,f,t,f],.move (.s [f,f,f]),none⟩,
  ⟨some [f,t,t,f],.conv .u64 (.s [t,f,t,f]),none⟩,
  ⟨some [t,f],.move (.s [f,f,t,f]),none⟩,
  ⟨some [f,t],.move (.s [f,t,t,f]),none⟩]) : CCode)) false true
def c99_o3 : CCode:=(fun (f t : Bool) => (.trim [[],[f]] (.ops [
  ⟨some [f,f,f,t],.move (.s []),none⟩,
  ⟨some [t,f,f,t],.move (.s [f]),none⟩,
  ⟨some [f,t,f,t],.call f (.c (.func 110 [])) [(.s [f,f,f,t]),(.s [t,f,f,t])],none⟩,
  ⟨some [t,t,t,f],.move (.s [f,t,f,t]),none⟩,
  ⟨some [t,t,f,t],.extract 0 (.s [t,t,t,f]),none⟩,
  ⟨some [f,f,t,t],.extract 1 (.s [t,t,t,f]),none⟩,
  ⟨some [t,f,f],.move (.s [t,t,f,t]),none⟩,
  ⟨some [f,t,f],.move (.s [f,f,t,t]),none⟩]) : CCode)) false true
def c99_o4 : CCode:=(fun (f t : Bool) => (.trim [[t,f,f],[f,t,f]] (.ops [
  ⟨some [t,f,t,t],.move (.s [t,f,f]),none⟩,
  ⟨some [f,t,t,t],.move (.s [f,t,f]),none⟩,
  ⟨some [t,f],.move (.s [t,f,t,t]),none⟩,
  ⟨some [f,t],.move (.s [f,t,t,t]),none⟩]) : CCode)) false true
def c99 : CFunc:=(fun (f t : Bool) => ({ params:=[[],[f]],results:=[.slot [t,f],.slot [f,t]],shared:=f,body:=(.seq c99_o0
 (.seq (.cond (.c (.bool f)) (.seq c99_o1
 (.seq c99_o2
 .ret)) .skip)
 (.seq c99_o3
 (.seq c99_o4
 .ret)))) } : CFunc)) false true
def c100_o0 : CCode:=(fun (f t : Bool) => (.trim [[],[f]] (.ops [
  ⟨some [t,f],.move (.c (.int .i64 0)),none⟩]) : CCode)) false true
def c100_o1 : CCode:=(fun (f t : Bool) => (.trim [[],[f]] (.ops [
  ⟨some [t,t],.move (.s []),none⟩,
  ⟨some [f,f,f],.len 1 (.s [t,t]),none⟩,
  ⟨some [t,f,f],.move (.c (.int .i64 0)),none⟩]) : CCode)) false true
def c100_o2 : CCode:=(fun (f t : Bool) => (.trim [[],[f],[f,f,f],[t,f,f]] (.ops [
  ⟨some [f,t,f],.bin .lss (.s [t,f,f]) (.s [f,f,f]),none⟩]) : CCode)) false true
def c100_o3 : CCode:=(fun (f t : Bool) => (.trim [[],[f],[f,f,f],[t,f,f]] (.ops [
  ⟨some [t,t,f],.move (.s [t,f,f]),none⟩,
  ⟨some [f,t],.move (.s [t,t,f]),none⟩]) : CCode)) false true
def c100_o4 : CCode:=(fun (f t : Bool) => (.trim [[],[f],[f,t],[f,f,f],[t,f,f]] (.ops [
  ⟨some [f,f,t],.move (.s [f]),none⟩,
  ⟨some [t,f,t],.move (.s []),none⟩,
  ⟨some [f,t,t],.move (.s [f,t]),none⟩,
  ⟨some [t,t,t],.idxSl 1 (.s [t,f,t]) (.s [f,t,t]),none⟩,
  ⟨some [f,f,f,f],.load none (.s [t,t,t]),none⟩,
  ⟨some [t,f,f,f],.call f (.s [f,f,t]) [(.s [f,f,f,f])],none⟩]) : CCode)) false true
def c100_o5 : CCode:=(fun (f t : Bool) => (.trim [[f,t]] (.ops [
  ⟨some [f,t,f,f],.move (.s [f,t]),none⟩,
  ⟨some [t,f],.move (.s [f,t,f,f]),none⟩]) : CCode)) false true
def c100_o6 : CCode:=(fun (f t : Bool) => (.trim [[],[f],[f,f,f],[t,f,f]] (.ops [
  ⟨some [t,t,f,f],.bin .add (.s [t,f,f]) (.c (.int .i64 1)),none⟩,
  ⟨some [t,f,f],.move (.s [t,t,f,f]),none⟩]) : CCode)) false true
def c100_b0 : CCode:=(fun (f t : Bool) => ((.seq c100_o2
 (.seq (.cond (.s [f,t,f]) .skip (.exit 0))
 (.seq (.block 1 (.seq c100_o3
 (.seq c100_o4
 (.cond (.s [t,f,f,f]) (.seq c100_o5
 .ret) .skip))))
 c100_o6))) : CCode)) false true
def c100_l0 : CCode:=(fun (f t : Bool) => (.loop [[],[f],[f,f,f],[t,f,f]] c100_b0 : CCode)) false true
def c100_o7 : CCode:=(fun (f t : Bool) => (.trim [] (.ops [
  ⟨some [t,f],.move (.c (.int .i64 (-1))),none⟩]) : CCode)) false true
def c100 : CFunc:=(fun (f t : Bool) => ({ params:=[[],[f]],results:=[.slot [t,f]],shared:=f,body:=(.seq c100_o0
 (.seq (.seq c100_o1
 (.block 0 c100_l0))
 (.seq c100_o7
 .ret))) } : CFunc)) false true
def c101_o0 : CCode:=(fun (f t : Bool) => (.trim [[]] (.ops [
  ⟨some [t],.move (.c (.bool f)),none⟩]) : CCode)) false true
def c101_o1 : CCode:=(fun (f t : Bool) => (.trim [[]] (.ops [
  ⟨some [f,f],.move (.s []),none⟩,
  ⟨some [t,f],.call f (.c (.func 60 [])) [(.s [f,f]),(.c (.int .i64 (-1000))),(.c (.int .i64 1000))],none⟩,
  ⟨some [f,t],.un .not (.s [t,f]),none⟩,
  ⟨some [t],.move (.s [f,t]),none⟩]) : CCode)) false true
def c101 : CFunc:=(fun (f t : Bool) => ({ params:=[[]],results:=[.slot [t]],shared:=t,body:=(.seq c101_o0
 (.seq c101_o1
 .ret)) } : CFunc)) false true
def c102_o0 : CCode:=(fun (f t : Bool) => (.trim [[],[f]] (.ops [
  ⟨some [t,f],.move (.c (.bool f)),none⟩]) : CCode)) false true
def c102_o1 : CCode:=(fun (f t : Bool) => (.trim [[],[f]] (.ops [
  ⟨some [f,t],.move (.s []),none⟩,
  ⟨some [t,t],.move (.s [f]),none⟩,
  ⟨some [f,f,f],.call f (.c (.func 111 [])) [(.s [f,t]),(.s [t,t])],none⟩,
  ⟨some [t,f,f],.bin .geq (.s [f,f,f]) (.c (.int .i64 0)),none⟩,
  ⟨some [t,f],.move (.s [t,f,f]),none⟩]) : CCode)) false true
def c102 : CFunc:=(fun (f t : Bool) => ({ params:=[[],[f]],results:=[.slot [t,f]],shared:=f,body:=(.seq c102_o0
 (.seq c102_o1
 .ret)) } : CFunc)) false true
def c103_o0 : CCode:=(fun (f t : Bool) => (.trim [[],[f]] (.ops [
  ⟨some [f,f],.move (.c (.bool f)),none⟩]) : CCode)) false true
def c103_o1 : CCode:=(fun (f t : Bool) => (.trim [[],[f]] (.ops [
  ⟨some [t,f],.move (.s []),none⟩,
  ⟨some [f,t],.len 1 (.s [t,f]),none⟩,
  ⟨some [t,t],.load none (.s [f]),none⟩,
  ⟨some [f,f,f],.bin .neq (.s [f,t]) (.s [t,t]),none⟩,
  ⟨some [t,f,f],.move (.s [f,f,f]),none⟩,
  ⟨some [f,t,f],.move (.s []),some ([t,f,f],f)⟩,
  ⟨some [t,t,f],.call f (.c (.func 80 [])) [(.s [f,t,f]),(.c (.func 104 []))],some ([t,f,f],f)⟩,
  ⟨some [f,f,t],.pick (.s [t,f,f]) (.c (.bool t)) (.s [t,t,f]),none⟩,
  ⟨some [f,f],.move (.s [f,f,t]),none⟩]) : CCode)) false true
def c103 : CFunc:=(fun (f t : Bool) => ({ params:=[[],[f]],results:=[.slot [f,f]],shared:=t,body:=(.seq c103_o0
 (.seq c103_o1
 .ret)) } : CFunc)) false true
def c104_o0 : CCode:=(fun (f t : Bool) => (.trim [[]] (.ops [
  ⟨some [t],.move (.c (.bool f)),none⟩]) : CCode)) false true
def c104_o1 : CCode:=(fun (f t : Bool) => (.trim [[]] (.ops [
  ⟨some [f,f],.move (.s []),none⟩,
  ⟨some [t,f],.call f (.c (.func 60 [])) [(.s [f,f]),(.c (.int .i64 0)),(.c (.int .i64 1))],none⟩,
  ⟨some [f,t],.un .not (.s [t,f]),none⟩,
  ⟨some [t],.move (.s [f,t]),none⟩]) : CCode)) false true
def c104 : CFunc:=(fun (f t : Bool) => ({ params:=[[]],results:=[.slot [t]],shared:=t,body:=(.seq c104_o0
 (.seq c104_o1
 .ret)) } : CFunc)) false true
def c105_o0 : CCode:=(fun (f t : Bool) => (.trim [[],[f],[t]] (.ops [
  ⟨some [f,f],.box none (.s []),none⟩]) : CCode)) false true
def c105_o1 : CCode:=(fun (f t : Bool) => (.trim [[f],[t],[f,f]] (.ops [
  ⟨some [t,f],.alloc none [.nilf],none⟩]) : CCode)) false true
def c105_o2 : CCode:=(fun (f t : Bool) => (.trim [[f],[t],[f,f],[t,f]] (.ops [
  ⟨some [f,t],.makeFunc 106 [(.s [f]),(.s [f,f]),(.s [t]),(.s [t,f])],none⟩,
  ⟨none,.store 1 (.s [t,f]) (.s [f,t]),none⟩]) : CCode)) false true
def c105_o3 : CCode:=(fun (f t : Bool) => (.trim [[t,f]] (.ops [
  ⟨some [t,t],.load none (.s [t,f]),none⟩,
  ⟨some [f,f,f],.call f (.s [t,t]) [(.c (.str []))],none⟩]) : CCode)) false true
def c105 : CFunc:=(fun (f t : Bool) => ({ params:=[[],[f],[t]],results:=[],shared:=t,body:=(.seq c105_o0
 (.seq c105_o1
 (.seq c105_o2
 c105_o3))) } : CFunc)) false true
def c106_o0 : CCode:=(fun (f t : Bool) => (.trim [[],[f],[t],[f,f],[t,f]] (.ops [
  ⟨some [t,t],.move (.c (.bool f)),none⟩]) : CCode)) false true
def c106_o1 : CCode:=(fun (f t : Bool) => (.trim [[],[f],[t],[f,f],[t,f]] (.ops [
  ⟨some [t,f,f],.move (.s []),none⟩,
  ⟨some [f,t,f],.len 0 (.s [t,f,f]),none⟩,
  ⟨some [t,t,f],.load none (.s [f]),none⟩,
  ⟨some [f,f,t],.bin .eql (.s [f,t,f]) (.s [t,t,f]),none⟩]) : CCode)) false true
def c106_o2 : CCode:=(fun (f t : Bool) => (.trim [[],[t]] (.ops [
  ⟨some [t,f,t],.load none (.s [t]),none⟩,
  ⟨some [f,t,t],.move (.s []),none⟩,
  ⟨some [t,t,t],.call f (.s [t,f,t]) [(.s [f,t,t])],none⟩,
  ⟨some [t,t],.move (.s [t,t,t]),none⟩]) : CCode)) false true
def c106_o3 : CCode:=(fun (f t : Bool) => (.trim [[],[f,f],[t,f]] (.ops [
  ⟨some [f,f,f,f],.load none (.s [f,f]),none⟩,
  ⟨some [t,f,f,f],.move (.c (.int .i64 0)),none⟩]) : CCode)) false true
def c106_o4 : CCode:=(fun (f t : Bool) => (.trim [[],[t,f],[f,f,f,f],[t,f,f,f]] (.ops [
  ⟨some [f,t,f,f],.bin .lss (.s [t,f,f,f]) (.s [f,f,f,f]),none⟩]) : CCode)) false true
def c106_o5 : CCode:=(fun (f t : Bool) => (.trim [[],[t,f],[f,f,f,f],[t,f,f,f]] (.ops [
  ⟨some [t,t,f,f],.move (.s [t,f,f,f]),none⟩,
  ⟨some [f,f,f],.move (.s [t,t,f,f]),none⟩]) : CCode)) false true
def c106_o6 : CCode:=(fun (f t : Bool) => (.trim [[],[t,f],[f,f,f],[f,f,f,f],[t,f,f,f]] (.ops [
  ⟨some [f,f,t,f],.load none (.s [t,f]),none⟩,
  ⟨some [t,f,t,f],.move (.s []),none⟩,
  ⟨some [f,t,t,f],.move (.s [f,f,f]),none⟩,
  ⟨some [t,t,t,f],.bin .add (.c (.int .i64 48)) (.s [f,t,t,f]),none⟩,
  ⟨some [f,f,f,t],.conv .i32 (.s [t,t,t,f]),none⟩,
  ⟨some [t,f,f,t],.runeStr (.s [f,f,f,t]),none⟩,
  ⟨some [f,t,f,t],.bin .add (.s [t,f,t,f]) (.s [t,f,f,t]),none⟩,
  ⟨some [t,t,f,t],.call f (.s [f,f,t,f]) [(.s [f,t,f,t])],none⟩,
  ⟨some [f,f,t,t],.un .not (.s [t,t,f,t]),none⟩]) : CCode)) false true
def c106_o7 : CCode:=(fun (f t : Bool) => (.trim [] (.ops [
  ⟨some [t,t],.move (.c (.bool f)),none⟩]) : CCode)) false true
def c106_o8 : CCode:=(fun (f t : Bool) => (.trim [[],[t,f],[f,f,f,f],[t,f,f,f]] (.ops [
  ⟨some [t,f,t,t],.bin .add (.s [t,f,f,f]) (.c (.int .i64 1)),none⟩,
  ⟨some [t,f,f,f],.move (.s [t,f,t,t]),none⟩]) : CCode)) false true
def c106_b0 : CCode:=(fun (f t : Bool) => ((.seq c106_o4
 (.seq (.cond (.s [f,t,f,f]) .skip (.exit 0))
 (.seq (.block 1 (.seq c106_o5
 (.seq c106_o6
 (.cond (.s [f,f,t,t]) (.seq c106_o7
 .ret) .skip))))
 c106_o8))) : CCode)) false true
def c106_l0 : CCode:=(fun (f t : Bool) => (.loop [[],[t,f],[f,f,f,f],[t,f,f,f]] c106_b0 : CCode)) false true
def c106_o9 : CCode:=(fun (f t : Bool) => (.trim [] (.ops [
  ⟨some [t,t],.move (.c (.bool t)),none⟩]) : CCode)) false true
def c106 : CFunc:=(fun (f t : Bool) => ({ params:=[[],[f],[t],[f,f],[t,f]],results:=[.slot [t,t]],shared:=t,body:=(.seq c106_o0
 (.seq (.seq c106_o1
 (.cond (.s [f,f,t]) (.seq c106_o2
 .ret) .skip))
 (.seq (.seq c106_o3
 (.block 0 c106_l0))
 (.seq c106_o9
 .ret)))) } : CFunc)) false true
def c109_o0 : CCode:=(fun (f t : Bool) => (.trim [[],[f]] (.ops [
  ⟨some [t,f],.move (.c (.int .u32 0)),none⟩,
  ⟨some [f,t],.move (.c (.int .u32 0)),none⟩]) : CCode)) false true
def c109_o1 : CCode:=(fun (f t : Bool) => (.trim [[],[f]] (.ops [
  ⟨some [f,f,f],.move (.s []),none⟩,
  ⟨some [t,f,f],.conv .u64 (.s [f,f,f]),none⟩,
  ⟨some [f,t,f],.move (.s [f]),none⟩,
  ⟨some [t,t,f],.conv .u64 (.s [f,t,f]),none⟩,
  ⟨some [f,f,t],.bin .mul (.s [t,f,f]) (.s [t,t,f]),none⟩,
  ⟨some [t,t],.move (.s [f,f,t]),none⟩]) : CCode)) false true
def c109_o2 : CCode:=(fun (f t : Bool) => (.trim [[t,t]] (.ops [
  ⟨some [t,f,t],.move (.s [t,t]),none⟩,
  ⟨some [f,t,t],.bin .shr (.s [t,f,t]) (.c (.int .u64 32)),none⟩,
  ⟨some [t,t,t],.conv .u32 (.s [f,t,t]),none⟩,
  ⟨some [f,f,f,f],.move (.s [t,t]),none⟩,
  ⟨some [t,f,f,f],.conv .u32 (.s [f,f,f,f]),none⟩,
  ⟨some [t,f],.move (.s [t,t,t]),none⟩,
  ⟨some [f,t],.move (.s [t,f,f,f]),none⟩]) : CCode)) false true
def c109 : CFunc:=(fun (f t : Bool) => ({ params:=[[],[f]],results:=[.slot [t,f],.slot [f,t]],shared:=f,body:=(.seq c109_o0
 (.seq c109_o1
 (.seq c109_o2
 .ret))) } : CFunc)) false true
def c110_o0 : CCode:=(fun (f t : Bool) => (.trim [[],[f]] (.ops [
  ⟨some [t,f],.move (.c (.int .u64 0)),none⟩,
  ⟨some [f,t],.move (.c (.int .u64 0)),none⟩]) : CCode)) false true
def c110_o1 : CCode:=(fun (f t : Bool) => (.trim [[],[f]] (.ops [
  ⟨some [t,t,t],.move (.s []),none⟩,
  ⟨some [f,f,f,f],.bin .and (.s [t,t,t]) (.c (.int .u64 4294967295)),none⟩,
  ⟨some [t,t],.move (.s [f,f,f,f]),none⟩]) : CCode)) false true
def c110_o2 : CCode:=(fun (f t : Bool) => (.trim [[],[f],[t,t]] (.ops [
  ⟨some [t,f,f,f],.move (.s []),none⟩,
  ⟨some [f,t,f,f],.bin .shr (.s [t,f,f,f]) (.c (.int .u64 32)),none⟩,
  ⟨some [f,f,f],.move (.s [f,t,f,f]),none⟩]) : CCode)) false true
def c110_o3 : CCode:=(fun (f t : Bool) => (.trim [[],[f],[t,t],[f,f,f]] (.ops [
  ⟨some [t,t,f,f],.move (.s [f]),none⟩,
  ⟨some [f,f,t,f],.bin .and (.s [t,t,f,f]) (.c (.int .u64 4294967295)),none⟩,
  ⟨some [t,f,f],.move (.s [f,f,t,f]),none⟩]) : CCode)) false true
def c110_o4 : CCode:=(fun (f t : Bool) => (.trim [[],[f],[t,t],[f,f,f],[t,f,f]] (.ops [
  ⟨some [t,f,t,f],.move (.s [f]),none⟩,
  ⟨some [f,t,t,f],.bin .shr (.s [t,f,t,f]) (.c (.int .u64 32)),none⟩,
  ⟨some [f,t,f],.move (.s [f,t,t,f]),none⟩]) : CCode)) false true
def c110_o5 : CCode:=(fun (f t : Bool) => (.trim [[],[f],[t,t],[f,f,f],[t,f,f],[f,t,f]] (.ops [
  ⟨some [t,t,t,f],.move (.s [t,t]),none⟩,
  ⟨some [f,f,f,t],.move (.s [t,f,f]),none⟩,
  ⟨some [t,f,f,t],.bin .mul (.s [t,t,t,f]) (.s [f,f,f,t]),none⟩,
  ⟨some [t,t,f],.move (.s [t,f,f,t]),none⟩]) : CCode)) false true
def c110_o6 : CCode:=(fun (f t : Bool) => (.trim [[],[f],[t,t],[f,f,f],[t,f,f],[f,t,f],[t,t,f]] (.ops [
  ⟨some [f,t,f,t],.move (.s [f,f,f]),none⟩,
  ⟨some [t,t,f,t],.move (.s [t,f,f]),none⟩,
  ⟨some [f,f,t,t],.bin .mul (.s [f,t,f,t]) (.s [t,t,f,t]),none⟩,
  ⟨some [t,f,t,t],.move (.s [t,t,f]),none⟩,
  ⟨some [f,t,t,t],.bin .shr (.s [t,f,t,t]) (.c (.int .u64 32)),none⟩,
  ⟨some [t,t,t,t],.bin .add (.s [f,f,t,t]) (.s [f,t,t,t]),none⟩,
  ⟨some [f,f,t],.move (.s [t,t,t,t]),none⟩]) : CCode)) false true
def c110_o7 : CCode:=(fun (f t : Bool) => (.trim [[],[f],[t,t],[f,f,f],[f,t,f],[f,f,t]] (.ops [
  ⟨some [f,f,f,f,f],.move (.s [f,f,t]),none⟩,
  ⟨some [t,f,f,f,f],.bin .and (.s [f,f,f,f,f]) (.c (.int .u64 4294967295)),none⟩,
  ⟨some [t,f,t],.move (.s [t,f,f,f,f]),none⟩]) : CCode)) false true
def c110_o8 : CCode:=(fun (f t : Bool) => (.trim [[],[f],[t,t],[f,f,f],[f,t,f],[f,f,t],[t,f,t]] (.ops [
  ⟨some [f,t,f,f,f],.move (.s [f,f,t]),none⟩,
  ⟨some [t,t,f,f,f],.bin .shr (.s [f,t,f,f,f]) (.c (.int .u64 32)),none⟩,
  ⟨some [f,t,t],.move (.s [t,t,f,f,f]),none⟩]) : CCode)) false true
def c110_o9 : CCode:=(fun (f t : Bool) => (.trim [[],[f],[t,t],[f,f,f],[f,t,f],[t,f,t],[f,t,t]] (.ops [
  ⟨some [f,f,t,f,f],.move (.s [t,f,t]),none⟩,
  ⟨some [t,f,t,f,f],.move (.s [t,t]),none⟩,
  ⟨some [f,t,t,f,f],.move (.s [f,t,f]),none⟩,
  ⟨some [t,t,t,f,f],.bin .mul (.s [t,f,t,f,f]) (.s [f,t,t,f,f]),none⟩,
  ⟨some [f,f,f,t,f],.bin .add (.s [f,f,t,f,f]) (.s [t,t,t,f,f]),none⟩,
  ⟨some [t,f,t],.move (.s [f,f,f,t,f]),none⟩]) : CCode)) false true
def c110_o10 : CCode:=(fun (f t : Bool) => (.trim [[],[f],[f,f,f],[f,t,f],[t,f,t],[f,t,t]] (.ops [
  ⟨some [t,f,f,t,f],.move (.s [f,f,f]),none⟩,
  ⟨some [f,t,f,t,f],.move (.s [f,t,f]),none⟩,
  ⟨some [t,t,f,t,f],.bin .mul (.s [t,f,f,t,f]) (.s [f,t,f,t,f]),none⟩,
  ⟨some [f,f,t,t,f],.move (.s [f,t,t]),none⟩,
  ⟨some [t,f,t,t,f],.bin .add (.s [t,t,f,t,f]) (.s [f,f,t,t,f]),none⟩,
  ⟨some [f,t,t,t,f],.move (.s [t,f,t]),none⟩,
  ⟨some [t,t,t,t,f],.bin .shr (.s [f,t,t,t,f]) (.c (.int .u64 32)),none⟩,
  ⟨some [f,f,f,f,t],.bin .add (.s [t,f,t,t,f]) (.s [t,t,t,t,f]),none⟩,
  ⟨some [t,f],.move (.s [f,f,f,f,t]),none⟩]) : CCode)) false true
def c110_o11 : CCode:=(fun (f t : Bool) => (.trim [[],[f],[t,f]] (.ops [
  ⟨some [t,f,f,f,t],.move (.s []),none⟩,
  ⟨some [f,t,f,f,t],.move (.s [f]),none⟩,
  ⟨some [t,t,f,f,t],.bin .mul (.s [t,f,f,f,t]) (.s [f,t,f,f,t]),none⟩,
  ⟨some [f,t],.move (.s [t,t,f,f,t]),none⟩]) : CCode)) false true
def c110 : CFunc:=(fun (f t : Bool) => ({ params:=[[],[f]],results:=[.slot [t,f],.slot [f,t]],shared:=f,body:=(.seq c110_o0
 (.seq c110_o1
 (.seq c110_o2
 (.seq c110_o3
 (.seq c110_o4
 (.seq c110_o5
 (.seq c110_o6
 (.seq c110_o7
 (.seq c110_o8
 (.seq c110_o9
 (.seq c110_o10
 (.seq c110_o11
 .ret)))))))))))) } : CFunc)) false true
def c111_o0 : CCode:=(fun (f t : Bool) => (.trim [[],[f]] (.ops [
  ⟨some [t,f],.move (.c (.int .i64 0)),none⟩]) : CCode)) false true
def c111_o1 : CCode:=(fun (f t : Bool) => (.trim [[],[f]] (.ops [
  ⟨some [t,t],.move (.s []),none⟩,
  ⟨some [f,f,f],.len 1 (.s [t,t]),none⟩,
  ⟨some [t,f,f],.move (.c (.int .i64 0)),none⟩]) : CCode)) false true
def c111_o2 : CCode:=(fun (f t : Bool) => (.trim [[],[f],[f,f,f],[t,f,f]] (.ops [
  ⟨some [f,t,f],.bin .lss (.s [t,f,f]) (.s [f,f,f]),none⟩]) : CCode)) false true
def c111_o3 : CCode:=(fun (f t : Bool) => (.trim [[],[f],[f,f,f],[t,f,f]] (.ops [
  ⟨some [t,t,f],.move (.s [t,f,f]),none⟩,
  ⟨some [f,t],.move (.s [t,t,f]),none⟩]) : CCode)) false true
def c111_o4 : CCode:=(fun (f t : Bool) => (.trim [[],[f],[f,t],[f,f,f],[t,f,f]] (.ops [
  ⟨some [f,f,t],.move (.s [f]),none⟩,
  ⟨some [t,f,t],.move (.s []),none⟩,
  ⟨some [f,t,t],.move (.s [f,t]),none⟩,
  ⟨some [t,t,t],.idxSl 1 (.s [t,f,t]) (.s [f,t,t]),none⟩,
  ⟨some [f,f,f,f],.load none (.s [t,t,t]),none⟩,
  ⟨some [t,f,f,f],.call f (.s [f,f,t]) [(.s [f,f,f,f])],none⟩]) : CCode)) false true
def c111_o5 : CCode:=(fun (f t : Bool) => (.trim [[f,t]] (.ops [
  ⟨some [f,t,f,f],.move (.s [f,t]),none⟩,
  ⟨some [t,f],.move (.s [f,t,f,f]),none⟩]) : CCode)) false true
def c111_o6 : CCode:=(fun (f t : Bool) => (.trim [[],[f],[f,f,f],[t,f,f]] (.ops [
  ⟨some [t,t,f,f],.bin .add (.s [t,f,f]) (.c (.int .i64 1)),none⟩,
  ⟨some [t,f,f],.move (.s [t,t,f,f]),none⟩]) : CCode)) false true
def c111_b0 : CCode:=(fun (f t : Bool) => ((.seq c111_o2
 (.seq (.cond (.s [f,t,f]) .skip (.exit 0))
 (.seq (.block 1 (.seq c111_o3
 (.seq c111_o4
 (.cond (.s [t,f,f,f]) (.seq c111_o5
 .ret) .skip))))
 c111_o6))) : CCode)) false true
def c111_l0 : CCode:=(fun (f t : Bool) => (.loop [[],[f],[f,f,f],[t,f,f]] c111_b0 : CCode)) false true
def c111_o7 : CCode:=(fun (f t : Bool) => (.trim [] (.ops [
  ⟨some [t,f],.move (.c (.int .i64 (-1))),none⟩]) : CCode)) false true
def c111 : CFunc:=(fun (f t : Bool) => ({ params:=[[],[f]],results:=[.slot [t,f]],shared:=f,body:=(.seq c111_o0
 (.seq (.seq c111_o1
 (.block 0 c111_l0))
 (.seq c111_o7
 .ret))) } : CFunc)) false true
end Go.Proofs.Ytljgfdamdcikgaa.Ev
