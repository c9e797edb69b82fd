/-
  The code of the program's functions as the evaluator takes it,printed by wip/tool/emit.py. SCheck ties each to the translation. No condition.
-/
import Derived.Test.YtljgfdamdcikgaaEv
namespace Go.Proofs.Ytljgfdamdcikgaa.Ev
open Go Go.AEv
set_option linter.unusedVariables false
private abbrev r:=List.range
def c109_o0 : CCode:=(fun (f t : Bool) => (.trim [[],[f]] (.ops [
  ⟨some [t,f],.move (.c (.int .u32 0)),none⟩,
  ⟨some [f,t],.move (.c (.int .u32 0)),none⟩]) : CCode)) false true
def c109_o1 : CCode:=(fun (f t : Bool) => (.trim [[],[f]] (.ops [
  ⟨some [f,f,f],.move (.s []),none⟩,
  ⟨some [t,f,f],.conv .u64 (.s [f,f,f]),none⟩,
  ⟨some [f,t,f],.move (.s [f]),none⟩,
  ⟨some [t,t,f],.conv .u64 (.s [f,t,f]),none⟩,
  ⟨some [f,f,t],.bin .mul (.s [t,f,f]) (.s [t,t,f]),none⟩,
  ⟨some [t,t],.move (.s [f,f,t]),none⟩]) : CCode)) false true
def c109_o2 : CCode:=(fun (f t : Bool) => (.trim [[t,t]] (.ops [
  ⟨some [t,f,t],.move (.s [t,t]),none⟩,
  ⟨some [f,t,t],.bin .shr (.s [t,f,t]) (.c (.int .u64 32)),none⟩,
  ⟨some [t,t,t],.conv .u32 (.s [f,t,t]),none⟩,
  ⟨some [f,f,f,f],.move (.s [t,t]),none⟩,
  ⟨some [t,f,f,f],.conv .u32 (.s [f,f,f,f]),none⟩,
  ⟨some [t,f],.move (.s [t,t,t]),none⟩,
  ⟨some [f,t],.move (.s [t,f,f,f]),none⟩]) : CCode)) false true
def c109 : CFunc:=(fun (f t : Bool) => ({ params:=[[],[f]],results:=[.slot [t,f],.slot [f,t]],shared:=f,body:=(.seq c109_o0
 (.seq c109_o1
 (.seq c109_o2
 .ret))) } : CFunc)) false true
def c110_o0 : CCode:=(fun (f t : Bool) => (.trim [[],[f]] (.ops [
  ⟨some [t,f],.move (.c (.int .u64 0)),none⟩,
  ⟨some [f,t],.move (.c (.int .u64 0)),none⟩]) : CCode)) false true
def c110_o1 : CCode:=(fun (f t : Bool) => (.trim [[],[f]] (.ops [
  ⟨some [t,t,t],.move (.s []),none⟩,
  ⟨some [f,f,f,f],.bin .and (.s [t,t,t]) (.c (.int .u64 4294967295)),none⟩,
  ⟨some [t,t],.move (.s [f,f,f,f]),none⟩]) : CCode)) false true
def c110_o2 : CCode:=(fun (f t : Bool) => (.trim [[],[f],[t,t]] (.ops [
  ⟨some [t,f,f,f],.move (.s []),none⟩,
  ⟨some [f,t,f,f],.bin .shr (.s [t,f,f,f]) (.c (.int .u64 32)),none⟩,
  ⟨some [f,f,f],.move (.s [f,t,f,f]),none⟩]) : CCode)) false true
def c110_o3 : CCode:=(fun (f t : Bool) => (.trim [[],[f],[t,t],[f,f,f]] (.ops [
  ⟨some [t,t,f,f],.move (.s [f]),none⟩,
  ⟨some [f,f,t,f],.bin .and (.s [t,t,f,f]) (.c (.int .u64 4294967295)),none⟩,
  ⟨some [t,f,f],.move (.s [f,f,t,f]),none⟩]) : CCode)) false true
def c110_o4 : CCode:=(fun (f t : Bool) => (.trim [[],[f],[t,t],[f,f,f],[t,f,f]] (.ops [
  ⟨some [t,f,t,f],.move (.s [f]),none⟩,
  ⟨some [f,t,t,f],.bin .shr (.s [t,f,t,f]) (.c (.int .u64 32)),none⟩,
  ⟨some [f,t,f],.move (.s [f,t,t,f]),none⟩]) : CCode)) false true
def c110_o5 : CCode:=(fun (f t : Bool) => (.trim [[],[f],[t,t],[f,f,f],[t,f,f],[f,t,f]] (.ops [
  ⟨some [t,t,t,f],.move (.s [t,t]),none⟩,
  ⟨some [f,f,f,t],.move (.s [t,f,f]),none⟩,
  ⟨some [t,f,f,t],.bin .mul (.s [t,t,t,f]) (.s [f,f,f,t]),none⟩,
  ⟨some [t,t,f],.move (.s [t,f,f,t]),none⟩]) : CCode)) false true
def c110_o6 : CCode:=(fun (f t : Bool) => (.trim [[],[f],[t,t],[f,f,f],[t,f,f],[f,t,f],[t,t,f]] (.ops [
  ⟨some [f,t,f,t],.move (.s [f,f,f]),none⟩,
  ⟨some [t,t,f,t],.move (.s [t,f,f]),none⟩,
  ⟨some [f,f,t,t],.bin .mul (.s [f,t,f,t]) (.s [t,t,f,t]),none⟩,
  ⟨some [t,f,t,t],.move (.s [t,t,f]),none⟩,
  ⟨some [f,t,t,t],.bin .shr (.s [t,f,t,t]) (.c (.int .u64 32)),none⟩,
  ⟨some [t,t,t,t],.bin .add (.s [f,f,t,t]) (.s [f,t,t,t]),none⟩,
  ⟨some [f,f,t],.move (.s [t,t,t,t]),none⟩]) : CCode)) false true
def c110_o7 : CCode:=(fun (f t : Bool) => (.trim [[],[f],[t,t],[f,f,f],[f,t,f],[f,f,t]] (.ops [
  ⟨some [f,f,f,f,f],.move (.s [f,f,t]),none⟩,
  ⟨some [t,f,f,f,f],.bin .and (.s [f,f,f,f,f]) (.c (.int .u64 4294967295)),none⟩,
  ⟨some [t,f,t],.move (.s [t,f,f,f,f]),none⟩]) : CCode)) false true
def c110_o8 : CCode:=(fun (f t : Bool) => (.trim [[],[f],[t,t],[f,f,f],[f,t,f],[f,f,t],[t,f,t]] (.ops [
  ⟨some [f,t,f,f,f],.move (.s [f,f,t]),none⟩,
  ⟨some [t,t,f,f,f],.bin .shr (.s [f,t,f,f,f]) (.c (.int .u64 32)),none⟩,
  ⟨some [f,t,t],.move (.s [t,t,f,f,f]),none⟩]) : CCode)) false true
def c110_o9 : CCode:=(fun (f t : Bool) => (.trim [[],[f],[t,t],[f,f,f],[f,t,f],[t,f,t],[f,t,t]] (.ops [
  ⟨some [f,f,t,f,f],.move (.s [t,f,t]),none⟩,
  ⟨some [t,f,t,f,f],.move (.s [t,t]),none⟩,
  ⟨some [f,t,t,f,f],.move (.s [f,t,f]),none⟩,
  ⟨some [t,t,t,f,f],.bin .mul (.s [t,f,t,f,f]) (.s [f,t,t,f,f]),none⟩,
  ⟨some [f,f,f,t,f],.bin .add (.s [f,f,t,f,f]) (.s [t,t,t,f,f]),none⟩,
  ⟨some [t,f,t],.move (.s [f,f,f,t,f]),none⟩]) : CCode)) false true
def c110_o10 : CCode:=(fun (f t : Bool) => (.trim [[],[f],[f,f,f],[f,t,f],[t,f,t],[f,t,t]] (.ops [
  ⟨some [t,f,f,t,f],.move (.s [f,f,f]),none⟩,
  ⟨some [f,t,f,t,f],.move (.s [f,t,f]),none⟩,
  ⟨some [t,t,f,t,f],.bin .mul (.s [t,f,f,t,f]) (.s [f,t,f,t,f]),none⟩,
  ⟨some [f,f,t,t,f],.move (.s [f,t,t]),none⟩,
  ⟨some [t,f,t,t,f],.bin .add (.s [t,t,f,t,f]) (.s [f,f,t,t,f]),none⟩,
  ⟨some [f,t,t,t,f],.move (.s [t,f,t]),none⟩,
  ⟨some [t,t,t,t,f],.bin .shr (.s [f,t,t,t,f]) (.c (.int .u64 32)),none⟩,
  ⟨some [f,f,f,f,t],.bin .add (.s [t,f,t,t,f]) (.s [t,t,t,t,f]),none⟩,
  ⟨some [t,f],.move (.s [f,f,f,f,t]),none⟩]) : CCode)) false true
def c110_o11 : CCode:=(fun (f t : Bool) => (.trim [[],[f],[t,f]] (.ops [
  ⟨some [t,f,f,f,t],.move (.s []),none⟩,
  ⟨some [f,t,f,f,t],.move (.s [f]),none⟩,
  ⟨some [t,t,f,f,t],.bin .mul (.s [t,f,f,f,t]) (.s [f,t,f,f,t]),none⟩,
  ⟨some [f,t],.move (.s [t,t,f,f,t]),none⟩]) : CCode)) false true
def c110 : CFunc:=(fun (f t : Bool) => ({ params:=[[],[f]],results:=[.slot [t,f],.slot [f,t]],shared:=f,body:=(.seq c110_o0
 (.seq c110_o1
 (.seq c110_o2
 (.seq c110_o3
 (.seq c110_o4
 (.seq c110_o5
 (.seq c110_o6
 (.seq c110_o7
 (.seq c110_o8
 (.seq c110_o9
 (.seq c110_o10
 (.seq c110_o11
 .ret)))))))))))) } : CFunc)) false true
def c111_o0 : CCode:=(fun (f t : Bool) => (.trim [[],[f]] (.ops [
  ⟨some [t,f],.move (.c (.int .i64 0)),none⟩]) : CCode)) false true
def c111_o1 : CCode:=(fun (f t : Bool) => (.trim [[],[f]] (.ops [
  ⟨some [t,t],.move (.s []),none⟩,
  ⟨some [f,f,f],.len 1 (.s [t,t]),none⟩,
  ⟨some [t,f,f],.move (.c (.int .i64 0)),none⟩]) : CCode)) false true
def c111_o2 : CCode:=(fun (f t : Bool) => (.trim [[],[f],[f,f,f],[t,f,f]] (.ops [
  ⟨some [f,t,f],.bin .lss (.s [t,f,f]) (.s [f,f,f]),none⟩]) : CCode)) false true
def c111_o3 : CCode:=(fun (f t : Bool) => (.trim [[],[f],[f,f,f],[t,f,f]] (.ops [
  ⟨some [t,t,f],.move (.s [t,f,f]),none⟩,
  ⟨some [f,t],.move (.s [t,t,f]),none⟩]) : CCode)) false true
def c111_o4 : CCode:=(fun (f t : Bool) => (.trim [[],[f],[f,t],[f,f,f],[t,f,f]] (.ops [
  ⟨some [f,f,t],.move (.s [f]),none⟩,
  ⟨some [t,f,t],.move (.s []),none⟩,
  ⟨some [f,t,t],.move (.s [f,t]),none⟩,
  ⟨some [t,t,t],.idxSl 1 (.s [t,f,t]) (.s [f,t,t]),none⟩,
  ⟨some [f,f,f,f],.load none (.s [t,t,t]),none⟩,
  ⟨some [t,f,f,f],.call f (.s [f,f,t]) [(.s [f,f,f,f])],none⟩]) : CCode)) false true
def c111_o5 : CCode:=(fun (f t : Bool) => (.trim [[f,t]] (.ops [
  ⟨some [f,t,f,f],.move (.s [f,t]),none⟩,
  ⟨some [t,f],.move (.s [f,t,f,f]),none⟩]) : CCode)) false true
def c111_o6 : CCode:=(fun (f t : Bool) => (.trim [[],[f],[f,f,f],[t,f,f]] (.ops [
  ⟨some [t,t,f,f],.bin .add (.s [t,f,f]) (.c (.int .i64 1)),none⟩,
  ⟨some [t,f,f],.move (.s [t,t,f,f]),none⟩]) : CCode)) false true
def c111_b0 : CCode:=(fun (f t : Bool) => ((.seq c111_o2
 (.seq (.cond (.s [f,t,f]) .skip (.exit 0))
 (.seq (.block 1 (.seq c111_o3
 (.seq c111_o4
 (.cond (.s [t,f,f,f]) (.seq c111_o5
 .ret) .skip))))
 c111_o6))) : CCode)) false true
def c111_l0 : CCode:=(fun (f t : Bool) => (.loop [[],[f],[f,f,f],[t,f,f]] c111_b0 : CCode)) false true
def c111_o7 : CCode:=(fun (f t : Bool) => (.trim [] (.ops [
  ⟨some [t,f],.move (.c (.int .i64 (-1))),none⟩]) : CCode)) false true
def c111 : CFunc:=(fun (f t : Bool) => ({ params:=[[],[f]],results:=[.slot [t,f]],shared:=f,body:=(.seq c111_o0
 (.seq (.seq c111_o1
 (.block 0 c111_l0))
 (.seq c111_o7
 .ret))) } : CFunc)) false true
def c112_o0 : CCode:=(fun (f t : Bool) => (.trim [[],[f],[t]] (.ops [
  ⟨some [t,t],.move (.c (.int .i64 0)),none⟩]) : CCode)) false true
def c112_o1 : CCode:=(fun (f t : Bool) => (.trim [[],[f],[t]] (.ops [
  ⟨some [f,t,f],.move (.s []),none⟩,
  ⟨some [t,t,f],.rangeS (.s [f,t,f]),none⟩]) : CCode)) false true
def c112_o2 : CCode:=(fun (f t : Bool) => (.trim [[f],[t],[t,t,f]] (.ops [
  ⟨some [f,f,t],.next (.s [t,t,f]),none⟩,
  ⟨some [t,f,t],.extract 0 (.s [f,f,t]),none⟩]) : CCode)) false true
def c112_o3 : CCode:=(fun (f t : Bool) => (.trim [[f],[t],[t,t,f],[f,f,t]] (.ops [
  ⟨some [f,t,t],.extract 1 (.s [f,f,t]),none⟩,
  ⟨some [t,t,t],.extract 2 (.s [f,f,t]),none⟩,
  ⟨some [f,f,f],.move (.s [f,t,t]),none⟩,
  ⟨some [t,f,f],.move (.s [t,t,t]),none⟩]) : CCode)) false true
def c112_o4 : CCode:=(fun (f t : Bool) => (.trim [[f],[t],[f,f,f],[t,f,f],[t,t,f]] (.ops [
  ⟨some [f,f,f,f],.move (.s [f]),none⟩,
  ⟨some [t,f,f,f],.move (.s [t,f,f]),none⟩,
  ⟨some [f,t,f,f],.call f (.s [f,f,f,f]) [(.s [t,f,f,f])],none⟩,
  ⟨some [t,t,f,f],.move (.s [t]),none⟩,
  ⟨some [f,f,t,f],.eqv 0 f (.s [f,t,f,f]) (.s [t,t,f,f]),none⟩]) : CCode)) false true
def c112_o5 : CCode:=(fun (f t : Bool) => (.trim [[f,f,f]] (.ops [
  ⟨some [t,f,t,f],.move (.s [f,f,f]),none⟩,
  ⟨some [t,t],.move (.s [t,f,t,f]),none⟩]) : CCode)) false true
def c112_b0 : CCode:=(fun (f t : Bool) => ((.seq c112_o2
 (.seq (.cond (.s [t,f,t]) .skip (.exit 0))
 (.block 1 (.seq c112_o3
 (.seq c112_o4
 (.cond (.s [f,f,t,f]) (.seq c112_o5
 .ret) .skip)))))) : CCode)) false true
def c112_l0 : CCode:=(fun (f t : Bool) => (.loop [[f],[t],[t,t,f]] c112_b0 : CCode)) false true
def c112_o6 : CCode:=(fun (f t : Bool) => (.trim [] (.ops [
  ⟨some [t,t],.move (.c (.int .i64 (-1))),none⟩]) : CCode)) false true
def c112 : CFunc:=(fun (f t : Bool) => ({ params:=[[],[f],[t]],results:=[.slot [t,t]],shared:=f,body:=(.seq c112_o0
 (.seq (.seq c112_o1
 (.block 0 c112_l0))
 (.seq c112_o6
 .ret))) } : CFunc)) false true
end Go.Proofs.Ytljgfdamdcikgaa.Ev
