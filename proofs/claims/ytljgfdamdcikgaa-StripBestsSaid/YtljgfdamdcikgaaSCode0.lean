/-
  The code of the program's functions as the evaluator takes it,printed by wip/tool/emit.py. SCheck ties each to the translation. No condition.
-/
import Derived.Test.YtljgfdamdcikgaaEv
namespace Go.Proofs.Ytljgfdamdcikgaa.Ev
open Go Go.AEv
set_option linter.unusedVariables false
private abbrev r:=List.range
def c3_o0 : CCode:=(fun (f t : Bool) => (.trim [[],[f],[t]] (.ops [
  ⟨some [f,f],.box none (.s []),none⟩,
  ⟨some [t,t],.move (.c (.bool f)),none⟩]) : CCode)) false true
def c3_o1 : CCode:=(fun (f t : Bool) => (.trim [[f],[t],[f,f]] (.ops [
  ⟨some [t,f,f,f],.load (some 3) (.s [f,f]),none⟩,
  ⟨some [f,t,f,f],.call f (.c (.func 18 [])) [(.s [t,f,f,f])],none⟩,
  ⟨some [f,f,f],.alloc none [.int .i64 0,.nils,.nils],none⟩,
  ⟨none,.store 3 (.s [f,f,f]) (.s [f,t,f,f]),none⟩]) : CCode)) false true
def c3_o2 : CCode:=(fun (f t : Bool) => (.trim [[f],[t],[f,f,f]] (.ops [
  ⟨some [t,t,f,f],.move (.s [f]),none⟩,
  ⟨some [f,f,t,f],.call f (.c (.func 19 [])) [(.s [t,t,f,f]),(.c (.int .i64 5))],none⟩,
  ⟨some [t,f,t,f],.bin .add (.c (.int .i64 1)) (.s [f,f,t,f]),none⟩,
  ⟨some [f,t,t,f],.move (.s [t]),none⟩,
  ⟨some [t,t,t,f],.call f (.c (.func 19 [])) [(.s [f,t,t,f]),(.c (.int .i64 5))],none⟩,
  ⟨some [f,f,f,t],.bin .add (.c (.int .i64 1)) (.s [t,t,t,f]),none⟩,
  ⟨some [f],.move (.s [t,f,t,f]),none⟩,
  ⟨some [t],.move (.s [f,f,f,t]),none⟩]) : CCode)) false true
def c3_o3 : CCode:=(fun (f t : Bool) => (.trim [[f],[t],[f,f,f]] (.ops [
  ⟨some [f,t,f,t],.load (some 3) (.s [f,f,f]),none⟩,
  ⟨some [t,t,f,t],.call f (.c (.func 20 [])) [(.s [f,t,f,t])],none⟩,
  ⟨some [t,f,f,t],.move (.s [t,t,f,t]),none⟩,
  ⟨some [f,f,t,t],.extract 0 (.s [t,f,f,t]),none⟩,
  ⟨some [t,f,t,t],.extract 1 (.s [t,f,f,t]),none⟩,
  ⟨some [t,f,f],.alloc none [.int .i64 0,.nils,.nils],none⟩,
  ⟨none,.store 3 (.s [t,f,f]) (.s [f,f,t,t]),none⟩,
  ⟨some [f,t,f],.move (.s [t,f,t,t]),none⟩]) : CCode)) false true
def c3_o4 : CCode:=(fun (f t : Bool) => (.trim [[f],[t],[f,f,f],[t,f,f],[f,t,f]] (.ops [
  ⟨some [t,t,t,t],.load (some 3) (.s [t,f,f]),none⟩,
  ⟨some [f,f,f,f,f],.call f (.c (.func 20 [])) [(.s [t,t,t,t])],none⟩,
  ⟨some [f,t,t,t],.move (.s [f,f,f,f,f]),none⟩,
  ⟨some [t,f,f,f,f],.extract 0 (.s [f,t,t,t]),none⟩,
  ⟨some [f,t,f,f,f],.extract 1 (.s [f,t,t,t]),none⟩,
  ⟨some [t,t,f],.alloc none [.int .i64 0,.nils,.nils],none⟩,
  ⟨none,.store 3 (.s [t,t,f]) (.s [t,f,f,f,f]),none⟩,
  ⟨some [f,f,t],.move (.s [f,t,f,f,f]),none⟩]) : CCode)) false true
def c3_o5 : CCode:=(fun (f t : Bool) => (.trim [[f],[t],[f,f,f],[t,f,f],[f,t,f],[t,t,f],[f,f,t]] (.ops [
  ⟨some [f,f,t,f,f],.load (some 3) (.s [f,f,f]),none⟩,
  ⟨some [t,f,t,f,f],.move (.s [f]),none⟩,
  ⟨some [f,t,t,f,f],.move (.s [t]),none⟩,
  ⟨some [t,t,t,f,f],.call f (.c (.func 21 [])) [(.s [f,f,t,f,f]),(.s [t,f,t,f,f]),(.s [f,t,t,f,f])],none⟩,
  ⟨some [t,t,f,f,f],.move (.s [t,t,t,f,f]),none⟩,
  ⟨some [f,f,f,t,f],.extract 0 (.s [t,t,f,f,f]),none⟩,
  ⟨some [t,f,f,t,f],.extract 1 (.s [t,t,f,f,f]),none⟩,
  ⟨some [t,f,t],.move (.s [f,f,f,t,f]),none⟩,
  ⟨some [f,t,t],.move (.s [t,f,f,t,f]),none⟩]) : CCode)) false true
def c3_o6 : CCode:=(fun (f t : Bool) => (.trim [[f],[t],[f,f,f],[t,f,f],[f,t,f],[t,t,f],[f,f,t],[t,f,t],[f,t,t]] (.ops [
  ⟨some [t,t,f,t,f],.load (some 3) (.s [t,f,f]),none⟩,
  ⟨some [f,f,t,t,f],.move (.s [t]),none⟩,
  ⟨some [t,f,t,t,f],.move (.s [f]),none⟩,
  ⟨some [f,t,t,t,f],.call f (.c (.func 21 [])) [(.s [t,t,f,t,f]),(.s [f,f,t,t,f]),(.s [t,f,t,t,f])],none⟩,
  ⟨some [f,t,f,t,f],.move (.s [f,t,t,t,f]),none⟩,
  ⟨some [t,t,t,t,f],.extract 0 (.s [f,t,f,t,f]),none⟩,
  ⟨some [f,f,f,f,t],.extract 1 (.s [f,t,f,t,f]),none⟩,
  ⟨some [t,t,t],.move (.s [t,t,t,t,f]),none⟩,
  ⟨some [f,f,f,f],.move (.s [f,f,f,f,t]),none⟩]) : CCode)) false true
def c3_o7 : CCode:=(fun (f t : Bool) => (.trim [[f,f,f],[f,t,f],[t,t,f],[f,f,t],[t,f,t],[f,t,t],[t,t,t],[f,f,f,f]] (.ops [
  ⟨some [t,f,f,f,t],.move (.s [f,t,f]),none⟩,
  ⟨some [f,t,f,f,t],.bin .eql (.s [t,f,f,f,t]) (.c (.int .i64 0)),none⟩,
  ⟨some [t,t,f,f,t],.move (.s [f,t,f,f,t]),none⟩,
  ⟨some [f,f,t,f,t],.move (.s [f,f,t]),some ([t,t,f,f,t],t)⟩,
  ⟨some [t,f,t,f,t],.bin .eql (.s [f,f,t,f,t]) (.c (.int .i64 0)),some ([t,t,f,f,t],t)⟩,
  ⟨some [f,t,t,f,t],.pick (.s [t,t,f,f,t]) (.s [t,f,t,f,t]) (.c (.bool f)),none⟩,
  ⟨some [t,t,t,f,t],.move (.s [f,t,t,f,t]),none⟩,
  ⟨some [f,f,f,t,t],.move (.s [f,t,t]),some ([t,t,t,f,t],t)⟩,
  ⟨some [t,f,f,t,t],.bin .eql (.s [f,f,f,t,t]) (.c (.int .i64 0)),some ([t,t,t,f,t],t)⟩,
  ⟨some [f,t,f,t,t],.pick (.s [t,t,t,f,t]) (.s [t,f,f,t,t]) (.c (.bool f)),none⟩,
  ⟨some [t,t,f,t,t],.move (.s [f,t,f,t,t]),none⟩,
  ⟨some [f,f,t,t,t],.move (.s [f,f,f,f]),some ([t,t,f,t,t],t)⟩,
  ⟨some [t,f,t,t,t],.bin .eql (.s [f,f,t,t,t]) (.c (.int .i64 0)),some ([t,t,f,t,t],t)⟩,
  ⟨some [f,t,t,t,t],.pick (.s [t,t,f,t,t]) (.s [t,f,t,t,t]) (.c (.bool f)),none⟩,
  ⟨some [t,t,t,t,t],.move (.s [f,t,t,t,t]),none⟩,
  ⟨some [f,f,f,f,f,f],.move (.s [t,f,t]),some ([t,t,t,t,t],t)⟩,
  ⟨some [t,f,f,f,f,f],.move (.s [t,t,t]),some ([t,t,t,t,t],t)⟩,
  ⟨some [f,t,f,f,f,f],.bin .eql (.s [f,f,f,f,f,f]) (.s [t,f,f,f,f,f]),some ([t,t,t,t,t],t)⟩,
  ⟨some [t,t,f,f,f,f],.pick (.s [t,t,t,t,t]) (.s [f,t,f,f,f,f]) (.c (.bool f)),none⟩,
  ⟨some [f,f,t,f,f,f],.move (.s [t,t,f,f,f,f]),none⟩,
  ⟨some [t,f,t,f,f,f],.fieldAddr 0 (.s [t,t,f]),some ([f,f,t,f,f,f],t)⟩,
  ⟨some [f,t,t,f,f,f],.load none (.s [t,f,t,f,f,f]),some ([f,f,t,f,f,f],t)⟩,
  ⟨some [t,t,t,f,f,f],.fieldAddr 0 (.s [f,f,f]),some ([f,f,t,f,f,f],t)⟩,
  ⟨some [f,f,f,t,f,f],.load none (.s [t,t,t,f,f,f]),some ([f,f,t,f,f,f],t)⟩,
  ⟨some [t,f,f,t,f,f],.bin .eql (.s [f,t,t,f,f,f]) (.s [f,f,f,t,f,f]),some ([f,f,t,f,f,f],t)⟩,
  ⟨some [f,t,f,t,f,f],.pick (.s [f,f,t,f,f,f]) (.s [t,f,f,t,f,f]) (.c (.bool f)),none⟩,
  ⟨some [t,t,f,t,f,f],.move (.s [f,t,f,t,f,f]),none⟩,
  ⟨some [f,f,t,t,f,f],.fieldAddr 1 (.s [t,t,f]),some ([t,t,f,t,f,f],t)⟩,
  ⟨some [t,f,t,t,f,f],.load none (.s [f,f,t,t,f,f]),some ([t,t,f,t,f,f],t)⟩,
  ⟨some [f,t,t,t,f,f],.fieldAddr 1 (.s [f,f,f]),some ([t,t,f,t,f,f],t)⟩,
  ⟨some [t,t,t,t,f,f],.load none (.s [f,t,t,t,f,f]),some ([t,t,f,t,f,f],t)⟩,
  ⟨some [f,f,f,f,t,f],.call f (.c (.func 22 [])) [(.s [t,f,t,t,f,f]),(.s [t,t,t,t,f,f])],some ([t,t,f,t,f,f],t)⟩,
  ⟨some [t,f,f,f,t,f],.pick (.s [t,t,f,t,f,f]) (.s [f,f,f,f,t,f]) (.c (.bool f)),none⟩,
  ⟨some [f,t,f,f,t,f],.move (.s [t,f,f,f,t,f]),none⟩,
  ⟨some [t,t,f,f,t,f],.fieldAddr 2 (.s [t,t,f]),some ([f,t,f,f,t,f],t)⟩,
  ⟨some [f,f,t,f,t,f],.load none (.s [t,t,f,f,t,f]),some ([f,t,f,f,t,f],t)⟩,
  ⟨some [t,f,t,f,t,f],.fieldAddr 2 (.s [f,f,f]),some ([f,t,f,f,t,f],t)⟩,
  ⟨some [f,t,t,f,t,f],.load none (.s [t,f,t,f,t,f]),some ([f,t,f,f,t,f],t)⟩,
  ⟨some [t,t,t,f,t,f],.call f (.c (.func 22 [])) [(.s [f,f,t,f,t,f]),(.s [f,t,t,f,t,f])],some ([f,t,f,f,t,f],t)⟩,
  ⟨some [f,f,f,t,t,f],.pick (.s [f,t,f,f,t,f]) (.s [t,t,t,f,t,f]) (.c (.bool f)),none⟩,
  ⟨some [t,f,f,t,t,f],.move (.s [f,f,f,t,t,f]),none⟩,
  ⟨some [f,t,f,t,t,f],.call f (.c (.func 23 [])) [],some ([t,f,f,t,t,f],t)⟩,
  ⟨some [t,t,f,t,t,f],.pick (.s [t,f,f,t,t,f]) (.s [f,t,f,t,t,f]) (.c (.bool f)),none⟩,
  ⟨some [t,t],.move (.s [t,t,f,t,t,f]),none⟩]) : CCode)) false true
def c3 : CFunc:=(fun (f t : Bool) => ({ params:=[[],[f],[t]],results:=[.slot [t,t]],shared:=f,body:=(.seq c3_o0
 (.seq c3_o1
 (.seq c3_o2
 (.seq c3_o3
 (.seq c3_o4
 (.seq c3_o5
 (.seq c3_o6
 (.seq c3_o7
 .ret)))))))) } : CFunc)) false true
def c4_o0 : CCode:=(fun (f t : Bool) => (.trim [[],[f]] (.ops [
  ⟨some [t],.box none (.s []),none⟩,
  ⟨some [t,f],.move (.c (.bool f)),none⟩]) : CCode)) false true
def c4_o1 : CCode:=(fun (f t : Bool) => (.trim [[f],[t]] (.ops [
  ⟨some [t,f,t],.load (some 3) (.s [t]),none⟩,
  ⟨some [f,t,t],.call f (.c (.func 24 [])) [(.s [t,f,t])],none⟩,
  ⟨some [f,t],.alloc none [.int .i64 0,.nils,.nils],none⟩,
  ⟨none,.store 3 (.s [f,t]) (.s [f,t,t]),none⟩]) : CCode)) false true
def c4_o2 : CCode:=(fun (f t : Bool) => (.trim [[f],[f,t]] (.ops [
  ⟨some [f,f,f,f],.load (some 3) (.s [f,t]),none⟩,
  ⟨some [t,f,f,f],.move (.s [f]),none⟩,
  ⟨some [f,t,f,f],.call f (.c (.func 25 [])) [(.s [f,f,f,f]),(.s [t,f,f,f])],none⟩,
  ⟨some [t,t,t],.move (.s [f,t,f,f]),none⟩,
  ⟨some [t,t,f,f],.extract 0 (.s [t,t,t]),none⟩,
  ⟨some [f,f,t,f],.extract 1 (.s [t,t,t]),none⟩,
  ⟨some [t,t],.move (.s [t,t,f,f]),none⟩,
  ⟨some [f,f,f],.move (.s [f,f,t,f]),none⟩]) : CCode)) false true
def c4_o3 : CCode:=(fun (f t : Bool) => (.trim [[f],[f,t],[t,t],[f,f,f]] (.ops [
  ⟨some [f,t,t,f],.load (some 3) (.s [f,t]),none⟩,
  ⟨some [t,t,t,f],.move (.s [f]),none⟩,
  ⟨some [f,f,f,t],.call f (.c (.func 26 [])) [(.s [f,t,t,f]),(.s [t,t,t,f])],none⟩,
  ⟨some [t,f,t,f],.move (.s [f,f,f,t]),none⟩,
  ⟨some [t,f,f,t],.extract 0 (.s [t,f,t,f]),none⟩,
  ⟨some [f,t,f,t],.extract 1 (.s [t,f,t,f]),none⟩,
  ⟨some [t,f,f],.move (.s [t,f,f,t]),none⟩,
  ⟨some [f,t,f],.move (.s [f,t,f,t]),none⟩]) : CCode)) false true
def c4_o4 : CCode:=(fun (f t : Bool) => (.trim [[f],[f,t],[t,t],[f,f,f],[t,f,f],[f,t,f]] (.ops [
  ⟨some [f,f,t,t],.load (some 3) (.s [f,t]),none⟩,
  ⟨some [t,f,t,t],.call f (.c (.func 20 [])) [(.s [f,f,t,t])],none⟩,
  ⟨some [t,t,f,t],.move (.s [t,f,t,t]),none⟩,
  ⟨some [f,t,t,t],.extract 0 (.s [t,t,f,t]),none⟩,
  ⟨some [t,t,t,t],.extract 1 (.s [t,t,f,t]),none⟩,
  ⟨some [t,t,f],.alloc none [.int .i64 0,.nils,.nils],none⟩,
  ⟨none,.store 3 (.s [t,t,f]) (.s [f,t,t,t]),none⟩,
  ⟨some [f,f,t],.move (.s [t,t,t,t]),none⟩]) : CCode)) false true
def c4_o5 : CCode:=(fun (f t : Bool) => (.trim [[f],[f,t],[t,t],[f,f,f],[t,f,f],[f,t,f],[t,t,f],[f,f,t]] (.ops [
  ⟨some [f,f,f,f,f],.load (some 3) (.s [f,t]),none⟩,
  ⟨some [t,f,f,f,f],.call f (.c (.func 27 [])) [(.s [f,f,f,f,f])],none⟩,
  ⟨some [f,t,f,f,f],.un .not (.s [t,f,f,f,f]),none⟩]) : CCode)) false true
def c4_o6 : CCode:=(fun (f t : Bool) => (.trim [[f],[f,t],[t,t],[f,f,f],[t,f,f],[f,t,f],[t,t,f],[f,f,t]] (.ops [
  ⟨some [t,t,f,f,f],.fieldAddr 0 (.s [t,t,f]),none⟩,
  ⟨some [f,f,t,f,f],.load none (.s [t,t,f,f,f]),none⟩,
  ⟨some [t,f,t,f,f],.bin .neq (.s [f,f,t,f,f]) (.c (.int .i64 0)),none⟩,
  ⟨some [f,t,t,f,f],.move (.s [t,f,t,f,f]),none⟩,
  ⟨some [t,t,t,f,f],.fieldAddr 1 (.s [t,t,f]),some ([f,t,t,f,f],f)⟩,
  ⟨some [f,f,f,t,f],.load none (.s [t,t,t,f,f]),some ([f,t,t,f,f],f)⟩,
  ⟨some [t,f,f,t,f],.len 1 (.s [f,f,f,t,f]),some ([f,t,t,f,f],f)⟩,
  ⟨some [f,t,f,t,f],.bin .neq (.s [t,f,f,t,f]) (.c (.int .i64 0)),some ([f,t,t,f,f],f)⟩,
  ⟨some [t,t,f,t,f],.pick (.s [f,t,t,f,f]) (.c (.bool t)) (.s [f,t,f,t,f]),none⟩,
  ⟨some [f,f,t,t,f],.move (.s [t,t,f,t,f]),none⟩,
  ⟨some [t,f,t,t,f],.fieldAddr 2 (.s [t,t,f]),some ([f,f,t,t,f],f)⟩,
  ⟨some [f,t,t,t,f],.load none (.s [t,f,t,t,f]),some ([f,f,t,t,f],f)⟩,
  ⟨some [t,t,t,t,f],.len 1 (.s [f,t,t,t,f]),some ([f,f,t,t,f],f)⟩,
  ⟨some [f,f,f,f,t],.bin .neq (.s [t,t,t,t,f]) (.c (.int .i64 0)),some ([f,f,t,t,f],f)⟩,
  ⟨some [t,f,f,f,t],.pick (.s [f,f,t,t,f]) (.c (.bool t)) (.s [f,f,f,f,t]),none⟩,
  ⟨some [f,t,f,f,t],.move (.s [t,f,f,f,t]),none⟩,
  ⟨some [t,t,f,f,t],.move (.s [f,f,t]),some ([f,t,f,f,t],f)⟩,
  ⟨some [f,f,t,f,t],.bin .neq (.s [t,t,f,f,t]) (.c (.int .i64 2)),some ([f,t,f,f,t],f)⟩,
  ⟨some [t,f,t,f,t],.pick (.s [f,t,f,f,t]) (.c (.bool t)) (.s [f,f,t,f,t]),none⟩]) : CCode)) false true
def c4_o7 : CCode:=(fun (f t : Bool) => (.trim [] (.ops [
  ⟨some [t,f],.move (.c (.bool f)),none⟩]) : CCode)) false true
def c4_o8 : CCode:=(fun (f t : Bool) => (.trim [[f],[f,t],[t,t],[f,f,f],[t,f,f],[f,t,f],[t,t,f],[f,f,t]] (.ops [
  ⟨some [f,t,t,f,t],.fieldAddr 0 (.s [t,t,f]),none⟩,
  ⟨some [t,t,t,f,t],.load none (.s [f,t,t,f,t]),none⟩,
  ⟨some [f,f,f,t,t],.fieldAddr 0 (.s [f,t]),none⟩,
  ⟨some [t,f,f,t,t],.load none (.s [f,f,f,t,t]),none⟩,
  ⟨some [f,t,f,t,t],.bin .neq (.s [t,t,t,f,t]) (.s [t,f,f,t,t]),none⟩,
  ⟨some [t,t,f,t,t],.move (.s [f,t,f,t,t]),none⟩,
  ⟨some [f,f,t,t,t],.fieldAddr 1 (.s [t,t,f]),some ([t,t,f,t,t],f)⟩,
  ⟨some [t,f,t,t,t],.load none (.s [f,f,t,t,t]),some ([t,t,f,t,t],f)⟩,
  ⟨some [f,t,t,t,t],.fieldAddr 2 (.s [f,t]),some ([t,t,f,t,t],f)⟩,
  ⟨some [t,t,t,t,t],.load none (.s [f,t,t,t,t]),some ([t,t,f,t,t],f)⟩,
  ⟨some [f,f,f,f,f,f],.call f (.c (.func 22 [])) [(.s [t,f,t,t,t]),(.s [t,t,t,t,t])],some ([t,t,f,t,t],f)⟩,
  ⟨some [t,f,f,f,f,f],.un .not (.s [f,f,f,f,f,f]),some ([t,t,f,t,t],f)⟩,
  ⟨some [f,t,f,f,f,f],.pick (.s [t,t,f,t,t]) (.c (.bool t)) (.s [t,f,f,f,f,f]),none⟩,
  ⟨some [t,t,f,f,f,f],.move (.s [f,t,f,f,f,f]),none⟩,
  ⟨some [f,f,t,f,f,f],.fieldAddr 2 (.s [t,t,f]),some ([t,t,f,f,f,f],f)⟩,
  ⟨some [t,f,t,f,f,f],.load none (.s [f,f,t,f,f,f]),some ([t,t,f,f,f,f],f)⟩,
  ⟨some [f,t,t,f,f,f],.fieldAddr 1 (.s [f,t]),some ([t,t,f,f,f,f],f)⟩,
  ⟨some [t,t,t,f,f,f],.load none (.s [f,t,t,f,f,f]),some ([t,t,f,f,f,f],f)⟩,
  ⟨some [f,f,f,t,f,f],.call f (.c (.func 22 [])) [(.s [t,f,t,f,f,f]),(.s [t,t,t,f,f,f])],some ([t,t,f,f,f,f],f)⟩,
  ⟨some [t,f,f,t,f,f],.un .not (.s [f,f,f,t,f,f]),some ([t,t,f,f,f,f],f)⟩,
  ⟨some [f,t,f,t,f,f],.pick (.s [t,t,f,f,f,f]) (.c (.bool t)) (.s [t,f,f,t,f,f]),none⟩,
  ⟨some [t,t,f,t,f,f],.move (.s [f,t,f,t,f,f]),none⟩,
  ⟨some [f,f,t,t,f,f],.move (.s [f,f,t]),some ([t,t,f,t,f,f],f)⟩,
  ⟨some [t,f,t,t,f,f],.bin .neq (.s [f,f,t,t,f,f]) (.c (.int .i64 0)),some ([t,t,f,t,f,f],f)⟩,
  ⟨some [f,t,t,t,f,f],.pick (.s [t,t,f,t,f,f]) (.c (.bool t)) (.s [t,f,t,t,f,f]),none⟩]) : CCode)) false true
def c4_o9 : CCode:=(fun (f t : Bool) => (.trim [] (.ops [
  ⟨some [t,f],.move (.c (.bool f)),none⟩]) : CCode)) false true
def c4_o10 : CCode:=(fun (f t : Bool) => (.trim [[f],[f,t],[t,t],[f,f,f],[t,f,f],[f,t,f]] (.ops [
  ⟨some [t,t,t,t,f,f],.load (some 3) (.s [f,t]),none⟩,
  ⟨some [f,f,f,f,t,f],.move (.s [f]),none⟩,
  ⟨some [t,f,f,f,t,f],.call f (.c (.func 28 [])) [(.s [t,t,t,t,f,f]),(.s [f,f,f,f,t,f])],none⟩,
  ⟨some [f,t,f,f,t,f],.un .not (.s [t,f,f,f,t,f]),none⟩]) : CCode)) false true
def c4_o11 : CCode:=(fun (f t : Bool) => (.trim [[t,t],[f,f,f],[t,f,f],[f,t,f]] (.ops [
  ⟨some [t,t,f,f,t,f],.move (.s [t,t]),none⟩,
  ⟨some [f,f,t,f,t,f],.len 1 (.s [t,t,f,f,t,f]),none⟩,
  ⟨some [t,f,t,f,t,f],.bin .eql (.s [f,f,t,f,t,f]) (.c (.int .i64 0)),none⟩,
  ⟨some [f,t,t,f,t,f],.move (.s [t,f,t,f,t,f]),none⟩,
  ⟨some [t,t,t,f,t,f],.move (.s [f,f,f]),some ([f,t,t,f,t,f],t)⟩,
  ⟨some [f,f,f,t,t,f],.bin .eql (.s [t,t,t,f,t,f]) (.c (.int .i64 2)),some ([f,t,t,f,t,f],t)⟩,
  ⟨some [t,f,f,t,t,f],.pick (.s [f,t,t,f,t,f]) (.s [f,f,f,t,t,f]) (.c (.bool f)),none⟩,
  ⟨some [f,t,f,t,t,f],.move (.s [t,f,f,t,t,f]),none⟩,
  ⟨some [t,t,f,t,t,f],.move (.s [t,f,f]),some ([f,t,f,t,t,f],t)⟩,
  ⟨some [f,f,t,t,t,f],.len 1 (.s [t,t,f,t,t,f]),some ([f,t,f,t,t,f],t)⟩,
  ⟨some [t,f,t,t,t,f],.bin .eql (.s [f,f,t,t,t,f]) (.c (.int .i64 0)),some ([f,t,f,t,t,f],t)⟩,
  ⟨some [f,t,t,t,t,f],.pick (.s [f,t,f,t,t,f]) (.s [t,f,t,t,t,f]) (.c (.bool f)),none⟩,
  ⟨some [t,t,t,t,t,f],.move (.s [f,t,t,t,t,f]),none⟩,
  ⟨some [f,f,f,f,f,t],.move (.s [f,t,f]),some ([t,t,t,t,t,f],t)⟩,
  ⟨some [t,f,f,f,f,t],.bin .eql (.s [f,f,f,f,f,t]) (.c (.int .i64 2)),some ([t,t,t,t,t,f],t)⟩,
  ⟨some [f,t,f,f,f,t],.pick (.s [t,t,t,t,t,f]) (.s [t,f,f,f,f,t]) (.c (.bool f)),none⟩,
  ⟨some [t,t,f,f,f,t],.move (.s [f,t,f,f,f,t]),none⟩,
  ⟨some [f,f,t,f,f,t],.call f (.c (.func 23 [])) [],some ([t,t,f,f,f,t],t)⟩,
  ⟨some [t,f,t,f,f,t],.pick (.s [t,t,f,f,f,t]) (.s [f,f,t,f,f,t]) (.c (.bool f)),none⟩,
  ⟨some [t,f],.move (.s [t,f,t,f,f,t]),none⟩]) : CCode)) false true
def c4_o12 : CCode:=(fun (f t : Bool) => (.trim [[f],[f,t],[t,t],[f,f,f],[t,f,f],[f,t,f]] (.ops [
  ⟨some [f,t,t,f,f,t],.move (.s [t,t]),none⟩,
  ⟨some [t,t,t,f,f,t],.load (some 3) (.s [f,t]),none⟩,
  ⟨some [f,f,f,t,f,t],.move (.s [f]),none⟩,
  ⟨some [t,f,f,t,f,t],.call f (.c (.func 30 [])) [(.s [t,t,t,f,f,t]),(.s [f,f,f,t,f,t])],none⟩,
  ⟨some [f,t,f,t,f,t],.call f (.c (.func 29 [])) [(.s [f,t,t,f,f,t]),(.s [t,f,f,t,f,t])],none⟩,
  ⟨some [t,t,f,t,f,t],.move (.s [f,t,f,t,f,t]),none⟩,
  ⟨some [f,f,t,t,f,t],.move (.s [f,f,f]),some ([t,t,f,t,f,t],t)⟩,
  ⟨some [t,f,t,t,f,t],.bin .eql (.s [f,f,t,t,f,t]) (.c (.int .i64 0)),some ([t,t,f,t,f,t],t)⟩,
  ⟨some [f,t,t,t,f,t],.pick (.s [t,t,f,t,f,t]) (.s [t,f,t,t,f,t]) (.c (.bool f)),none⟩,
  ⟨some [t,t,t,t,f,t],.move (.s [f,t,t,t,f,t]),none⟩,
  ⟨some [f,f,f,f,t,t],.move (.s [t,f,f]),some ([t,t,t,t,f,t],t)⟩,
  ⟨some [t,f,f,f,t,t],.load (some 3) (.s [f,t]),some ([t,t,t,t,f,t],t)⟩,
  ⟨some [f,t,f,f,t,t],.move (.s [f]),some ([t,t,t,t,f,t],t)⟩,
  ⟨some [t,t,f,f,t,t],.call f (.c (.func 31 [])) [(.s [t,f,f,f,t,t]),(.s [f,t,f,f,t,t])],some ([t,t,t,t,f,t],t)⟩,
  ⟨some [f,f,t,f,t,t],.call f (.c (.func 22 [])) [(.s [f,f,f,f,t,t]),(.s [t,t,f,f,t,t])],some ([t,t,t,t,f,t],t)⟩,
  ⟨some [t,f,t,f,t,t],.pick (.s [t,t,t,t,f,t]) (.s [f,f,t,f,t,t]) (.c (.bool f)),none⟩,
  ⟨some [f,t,t,f,t,t],.move (.s [t,f,t,f,t,t]),none⟩,
  ⟨some [t,t,t,f,t,t],.move (.s [f,t,f]),some ([f,t,t,f,t,t],t)⟩,
  ⟨some [f,f,f,t,t,t],.bin .eql (.s [t,t,t,f,t,t]) (.c (.int .i64 0)),some ([f,t,t,f,t,t],t)⟩,
  ⟨some [t,f,f,t,t,t],.pick (.s [f,t,t,f,t,t]) (.s [f,f,f,t,t,t]) (.c (.bool f)),none⟩,
  ⟨some [f,t,f,t,t,t],.move (.s [t,f,f,t,t,t]),none⟩,
  ⟨some [t,t,f,t,t,t],.call f (.c (.func 23 [])) [],some ([f,t,f,t,t,t],t)⟩,
  ⟨some [f,f,t,t,t,t],.pick (.s [f,t,f,t,t,t]) (.s [t,t,f,t,t,t]) (.c (.bool f)),none⟩,
  ⟨some [t,f],.move (.s [f,f,t,t,t,t]),none⟩]) : CCode)) false true
def c4 : CFunc:=(fun (f t : Bool) => ({ params:=[[],[f]],results:=[.slot [t,f]],shared:=f,body:=(.seq c4_o0
 (.seq c4_o1
 (.seq c4_o2
 (.seq c4_o3
 (.seq c4_o4
 (.seq (.seq c4_o5
 (.cond (.s [f,t,f,f,f]) (.seq c4_o6
 (.cond (.s [t,f,t,f,t]) (.seq c4_o7
 .ret) .skip)) (.seq c4_o8
 (.cond (.s [f,t,t,t,f,f]) (.seq c4_o9
 .ret) .skip))))
 (.seq (.seq c4_o10
 (.cond (.s [f,t,f,f,t,f]) (.seq c4_o11
 .ret) .skip))
 (.seq c4_o12
 .ret)))))))) } : CFunc)) false true
def c5_o0 : CCode:=(fun (f t : Bool) => (.trim [[],[f]] (.ops [
  ⟨some [t],.box none (.s []),none⟩,
  ⟨some [f,f],.box none (.s [f]),none⟩,
  ⟨some [t,f],.move (.c (.bool f)),none⟩]) : CCode)) false true
def c5_o1 : CCode:=(fun (f t : Bool) => (.trim [[t],[f,f]] (.ops [
  ⟨some [f,t,t],.load (some 3) (.s [t]),none⟩,
  ⟨some [t,t,t],.call f (.c (.func 24 [])) [(.s [f,t,t])],none⟩,
  ⟨some [f,t],.alloc none [.int .i64 0,.nils,.nils],none⟩,
  ⟨none,.store 3 (.s [f,t]) (.s [t,t,t]),none⟩]) : CCode)) false true
def c5_o2 : CCode:=(fun (f t : Bool) => (.trim [[f,f],[f,t]] (.draw 0 [
  ⟨some [f,f,f,f],.idxArr 3 1 (.s [f,f]) (.c (.int .i64 0)),none⟩,
  ⟨some [t,f,f,f],.load none (.s [f,f,f,f]),none⟩,
  ⟨some [f,t,f,f],.idxArr 3 1 (.s [f,f]) (.c (.int .i64 1)),none⟩,
  ⟨some [t,t,f,f],.load none (.s [f,t,f,f]),none⟩,
  ⟨some [f,f,t,f],.idxArr 3 1 (.s [f,f]) (.c (.int .i64 2)),none⟩,
  ⟨some [t,f,t,f],.load none (.s [f,f,t,f]),none⟩,
  ⟨some [t,t],.move (.s [t,f,f,f]),none⟩,
  ⟨some [f,f,f],.move (.s [t,t,f,f]),none⟩,
  ⟨some [t,f,f],.move (.s [t,f,t,f]),none⟩]
  [(1,3),(1,5),(3,5)] [[],[0],[],[2],[],[4],[0,1],[0,1,2,3,6],(r 8)]) : CCode)) false true
def c5_o3 : CCode:=(fun (f t : Bool) => (.trim [[f,t],[t,t],[f,f,f],[t,f,f]] (.ops [
  ⟨some [t,t,t,f],.load (some 3) (.s [f,t]),none⟩,
  ⟨some [f,f,f,t],.move (.s [t,t]),none⟩,
  ⟨some [t,f,f,t],.move (.s [f,f,f]),none⟩,
  ⟨some [f,t,f,t],.move (.s [t,f,f]),none⟩,
  ⟨some [t,t,f,t],.call f (.c (.func 32 [])) [(.s [t,t,t,f]),(.s [f,f,f,t]),(.s [t,f,f,t]),(.s [f,t,f,t])],none⟩,
  ⟨some [f,t,t,f],.move (.s [t,t,f,t]),none⟩,
  ⟨some [f,f,t,t],.extract 0 (.s [f,t,t,f]),none⟩,
  ⟨some [t,f,t,t],.extract 1 (.s [f,t,t,f]),none⟩,
  ⟨some [f,t,f],.move (.s [f,f,t,t]),none⟩,
  ⟨some [t,t,f],.move (.s [t,f,t,t]),none⟩]) : CCode)) false true
def c5_o4 : CCode:=(fun (f t : Bool) => (.trim [[f,t],[t,t],[f,f,f],[t,f,f],[f,t,f],[t,t,f]] (.ops [
  ⟨some [f,t,t,t],.load (some 3) (.s [f,t]),none⟩,
  ⟨some [t,t,t,t],.move (.s [t,t]),none⟩,
  ⟨some [f,f,f,f,f],.call f (.c (.func 28 [])) [(.s [f,t,t,t]),(.s [t,t,t,t])],none⟩,
  ⟨some [t,f,f,f,f],.un .not (.s [f,f,f,f,f]),none⟩,
  ⟨some [f,t,f,f,f],.move (.s [t,f,f,f,f]),none⟩,
  ⟨some [t,t,f,f,f],.move (.s [f,f,f]),some ([f,t,f,f,f],f)⟩,
  ⟨some [f,f,t,f,f],.bin .lss (.s [t,t,f,f,f]) (.c (.int .i64 0)),some ([f,t,f,f,f],f)⟩,
  ⟨some [t,f,t,f,f],.pick (.s [f,t,f,f,f]) (.c (.bool t)) (.s [f,f,t,f,f]),none⟩,
  ⟨some [f,t,t,f,f],.move (.s [t,f,t,f,f]),none⟩,
  ⟨some [t,t,t,f,f],.move (.s [f,f,f]),some ([f,t,t,f,f],f)⟩,
  ⟨some [f,f,f,t,f],.bin .gtr (.s [t,t,t,f,f]) (.c (.int .i64 40)),some ([f,t,t,f,f],f)⟩,
  ⟨some [t,f,f,t,f],.pick (.s [f,t,t,f,f]) (.c (.bool t)) (.s [f,f,f,t,f]),none⟩]) : CCode)) false true
def c5_o5 : CCode:=(fun (f t : Bool) => (.trim [[f,t,f],[t,t,f]] (.ops [
  ⟨some [f,t,f,t,f],.move (.s [f,t,f]),none⟩,
  ⟨some [t,t,f,t,f],.len 1 (.s [f,t,f,t,f]),none⟩,
  ⟨some [f,f,t,t,f],.bin .eql (.s [t,t,f,t,f]) (.c (.int .i64 0)),none⟩,
  ⟨some [t,f,t,t,f],.move (.s [f,f,t,t,f]),none⟩,
  ⟨some [f,t,t,t,f],.move (.s [t,t,f]),some ([t,f,t,t,f],t)⟩,
  ⟨some [t,t,t,t,f],.bin .eql (.s [f,t,t,t,f]) (.c (.int .i64 2)),some ([t,f,t,t,f],t)⟩,
  ⟨some [f,f,f,f,t],.pick (.s [t,f,t,t,f]) (.s [t,t,t,t,f]) (.c (.bool f)),none⟩,
  ⟨some [t,f,f,f,t],.move (.s [f,f,f,f,t]),none⟩,
  ⟨some [f,t,f,f,t],.call f (.c (.func 23 [])) [],some ([t,f,f,f,t],t)⟩,
  ⟨some [t,t,f,f,t],.pick (.s [t,f,f,f,t]) (.s [f,t,f,f,t]) (.c (.bool f)),none⟩,
  ⟨some [t,f],.move (.s [t,t,f,f,t]),none⟩]) : CCode)) false true
def c5_o6 : CCode:=(fun (f t : Bool) => (.trim [[f,t],[t,t],[f,f,f],[t,f,f],[f,t,f],[t,t,f]] (.ops [
  ⟨some [t,f,t,f,t],.load (some 3) (.s [f,t]),none⟩,
  ⟨some [f,t,t,f,t],.move (.s [t,t]),none⟩,
  ⟨some [t,t,t,f,t],.move (.s [f,f,f]),none⟩,
  ⟨some [f,f,f,t,t],.call f (.c (.func 33 [])) [(.s [t,f,t,f,t]),(.s [f,t,t,f,t]),(.s [t,t,t,f,t])],none⟩,
  ⟨some [f,f,t,f,t],.move (.s [f,f,f,t,t]),none⟩,
  ⟨some [t,f,f,t,t],.extract 0 (.s [f,f,t,f,t]),none⟩,
  ⟨some [f,t,f,t,t],.extract 1 (.s [f,f,t,f,t]),none⟩,
  ⟨some [f,f,t],.move (.s [t,f,f,t,t]),none⟩,
  ⟨some [t,f,t],.move (.s [f,t,f,t,t]),none⟩]) : CCode)) false true
def c5_o7 : CCode:=(fun (f t : Bool) => (.trim [[f,t],[t,t],[f,f,f],[t,f,f],[f,t,f],[t,t,f],[f,f,t],[t,f,t]] (.ops [
  ⟨some [t,t,f,t,t],.move (.s [t,f,t]),none⟩,
  ⟨some [f,f,t,t,t],.un .not (.s [t,t,f,t,t]),none⟩]) : CCode)) false true
def c5_o8 : CCode:=(fun (f t : Bool) => (.trim [[f,t,f],[t,t,f]] (.ops [
  ⟨some [t,f,t,t,t],.move (.s [f,t,f]),none⟩,
  ⟨some [f,t,t,t,t],.len 1 (.s [t,f,t,t,t]),none⟩,
  ⟨some [t,t,t,t,t],.bin .eql (.s [f,t,t,t,t]) (.c (.int .i64 0)),none⟩,
  ⟨some [f,f,f,f,f,f],.move (.s [t,t,t,t,t]),none⟩,
  ⟨some [t,f,f,f,f,f],.move (.s [t,t,f]),some ([f,f,f,f,f,f],t)⟩,
  ⟨some [f,t,f,f,f,f],.bin .eql (.s [t,f,f,f,f,f]) (.c (.int .i64 5)),some ([f,f,f,f,f,f],t)⟩,
  ⟨some [t,t,f,f,f,f],.pick (.s [f,f,f,f,f,f]) (.s [f,t,f,f,f,f]) (.c (.bool f)),none⟩,
  ⟨some [f,f,t,f,f,f],.move (.s [t,t,f,f,f,f]),none⟩,
  ⟨some [t,f,t,f,f,f],.call f (.c (.func 23 [])) [],some ([f,f,t,f,f,f],t)⟩,
  ⟨some [f,t,t,f,f,f],.pick (.s [f,f,t,f,f,f]) (.s [t,f,t,f,f,f]) (.c (.bool f)),none⟩,
  ⟨some [t,f],.move (.s [f,t,t,f,f,f]),none⟩]) : CCode)) false true
def c5_o9 : CCode:=(fun (f t : Bool) => (.trim [[f,t],[t,t],[f,f,f],[t,f,f],[f,t,f],[t,t,f],[f,f,t]] (.ops [
  ⟨some [t,t,t,f,f,f],.move (.s [t,f,f]),none⟩,
  ⟨some [f,f,f,t,f,f],.bin .lss (.s [t,t,t,f,f,f]) (.c (.int .i64 0)),none⟩,
  ⟨some [t,f,f,t,f,f],.move (.s [f,f,f,t,f,f]),none⟩,
  ⟨some [f,t,f,t,f,f],.move (.s [t,f,f]),some ([t,f,f,t,f,f],f)⟩,
  ⟨some [t,t,f,t,f,f],.move (.s [f,f,t]),some ([t,f,f,t,f,f],f)⟩,
  ⟨some [f,f,t,t,f,f],.bin .geq (.s [f,t,f,t,f,f]) (.s [t,t,f,t,f,f]),some ([t,f,f,t,f,f],f)⟩,
  ⟨some [t,f,t,t,f,f],.pick (.s [t,f,f,t,f,f]) (.c (.bool t)) (.s [f,f,t,t,f,f]),none⟩]) : CCode)) false true
def c5_o10 : CCode:=(fun (f t : Bool) => (.trim [[f,t,f],[t,t,f]] (.ops [
  ⟨some [f,t,t,t,f,f],.move (.s [f,t,f]),none⟩,
  ⟨some [t,t,t,t,f,f],.len 1 (.s [f,t,t,t,f,f]),none⟩,
  ⟨some [f,f,f,f,t,f],.bin .eql (.s [t,t,t,t,f,f]) (.c (.int .i64 0)),none⟩,
  ⟨some [t,f,f,f,t,f],.move (.s [f,f,f,f,t,f]),none⟩,
  ⟨some [f,t,f,f,t,f],.move (.s [t,t,f]),some ([t,f,f,f,t,f],t)⟩,
  ⟨some [t,t,f,f,t,f],.bin .eql (.s [f,t,f,f,t,f]) (.c (.int .i64 2)),some ([t,f,f,f,t,f],t)⟩,
  ⟨some [f,f,t,f,t,f],.pick (.s [t,f,f,f,t,f]) (.s [t,t,f,f,t,f]) (.c (.bool f)),none⟩,
  ⟨some [t,f,t,f,t,f],.move (.s [f,f,t,f,t,f]),none⟩,
  ⟨some [f,t,t,f,t,f],.call f (.c (.func 23 [])) [],some ([t,f,t,f,t,f],t)⟩,
  ⟨some [t,t,t,f,t,f],.pick (.s [t,f,t,f,t,f]) (.s [f,t,t,f,t,f]) (.c (.bool f)),none⟩,
  ⟨some [t,f],.move (.s [t,t,t,f,t,f]),none⟩]) : CCode)) false true
def c5_o11 : CCode:=(fun (f t : Bool) => (.trim [[f,t],[t,t],[f,f,f],[t,f,f],[f,t,f],[t,t,f]] (.ops [
  ⟨some [f,f,f,t,t,f],.move (.s [f,t,f]),none⟩,
  ⟨some [t,f,f,t,t,f],.load (some 3) (.s [f,t]),none⟩,
  ⟨some [f,t,f,t,t,f],.move (.s [t,t]),none⟩,
  ⟨some [t,t,f,t,t,f],.move (.s [f,f,f]),none⟩,
  ⟨some [f,f,t,t,t,f],.move (.s [t,f,f]),none⟩,
  ⟨some [t,f,t,t,t,f],.call f (.c (.func 34 [])) [(.s [t,f,f,t,t,f]),(.s [f,t,f,t,t,f]),(.s [t,t,f,t,t,f]),(.s [f,f,t,t,t,f])],none⟩,
  ⟨some [f,t,t,t,t,f],.call f (.c (.func 29 [])) [(.s [f,f,f,t,t,f]),(.s [t,f,t,t,t,f])],none⟩,
  ⟨some [t,t,t,t,t,f],.move (.s [f,t,t,t,t,f]),none⟩,
  ⟨some [f,f,f,f,f,t],.move (.s [t,t,f]),some ([t,t,t,t,t,f],t)⟩,
  ⟨some [t,f,f,f,f,t],.bin .eql (.s [f,f,f,f,f,t]) (.c (.int .i64 0)),some ([t,t,t,t,t,f],t)⟩,
  ⟨some [f,t,f,f,f,t],.pick (.s [t,t,t,t,t,f]) (.s [t,f,f,f,f,t]) (.c (.bool f)),none⟩,
  ⟨some [t,t,f,f,f,t],.move (.s [f,t,f,f,f,t]),none⟩,
  ⟨some [f,f,t,f,f,t],.call f (.c (.func 23 [])) [],some ([t,t,f,f,f,t],t)⟩,
  ⟨some [t,f,t,f,f,t],.pick (.s [t,t,f,f,f,t]) (.s [f,f,t,f,f,t]) (.c (.bool f)),none⟩,
  ⟨some [t,f],.move (.s [t,f,t,f,f,t]),none⟩]) : CCode)) false true
def c5 : CFunc:=(fun (f t : Bool) => ({ params:=[[],[f]],results:=[.slot [t,f]],shared:=f,body:=(.seq c5_o0
 (.seq c5_o1
 (.seq c5_o2
 (.seq c5_o3
 (.seq (.seq c5_o4
 (.cond (.s [t,f,f,t,f]) (.seq c5_o5
 .ret) .skip))
 (.seq c5_o6
 (.seq (.seq c5_o7
 (.cond (.s [f,f,t,t,t]) (.seq c5_o8
 .ret) .skip))
 (.seq (.seq c5_o9
 (.cond (.s [t,f,t,t,f,f]) (.seq c5_o10
 .ret) .skip))
 (.seq c5_o11
 .ret))))))))) } : CFunc)) false true
def c11_o0 : CCode:=(fun (f t : Bool) => (.trim [[],[f]] (.ops [
  ⟨some [t],.box none (.s []),none⟩,
  ⟨some [t,f],.move (.c (.bool f)),none⟩]) : CCode)) false true
def c11_o1 : CCode:=(fun (f t : Bool) => (.trim [[f],[t]] (.ops [
  ⟨some [f,t,t],.load (some 3) (.s [t]),none⟩,
  ⟨some [t,t,t],.call f (.c (.func 24 [])) [(.s [f,t,t])],none⟩,
  ⟨some [f,f,f,f],.move (.s [f]),none⟩,
  ⟨some [t,f,f,f],.call f (.c (.func 50 [])) [(.s [f,f,f,f])],none⟩,
  ⟨some [f,t],.alloc none [.int .i64 0,.nils,.nils],none⟩,
  ⟨none,.store 3 (.s [f,t]) (.s [t,t,t]),none⟩,
  ⟨some [t,t],.move (.s [t,f,f,f]),none⟩]) : CCode)) false true
def c11_o2 : CCode:=(fun (f t : Bool) => (.trim [[f,t],[t,t]] (.ops [
  ⟨some [t,t,f,f],.load (some 3) (.s [f,t]),none⟩,
  ⟨some [f,f,t,f],.move (.s [t,t]),none⟩,
  ⟨some [t,f,t,f],.call f (.c (.func 51 [])) [(.s [t,t,f,f]),(.s [f,f,t,f])],none⟩,
  ⟨some [f,t,f,f],.move (.s [t,f,t,f]),none⟩,
  ⟨some [f,t,t,f],.extract 0 (.s [f,t,f,f]),none⟩,
  ⟨some [t,t,t,f],.extract 1 (.s [f,t,f,f]),none⟩,
  ⟨some [f,f,f,t],.extract 2 (.s [f,t,f,f]),none⟩,
  ⟨some [f,f,f],.move (.s [f,t,t,f]),none⟩,
  ⟨some [t,f,f],.move (.s [t,t,t,f]),none⟩,
  ⟨some [f,t,f],.move (.s [f,f,f,t]),none⟩]) : CCode)) false true
def c11_o3 : CCode:=(fun (f t : Bool) => (.trim [[f,t],[t,t],[f,f,f],[t,f,f],[f,t,f]] (.ops [
  ⟨some [t,f,f,t],.load (some 3) (.s [f,t]),none⟩,
  ⟨some [f,t,f,t],.call f (.c (.func 27 [])) [(.s [t,f,f,t])],none⟩,
  ⟨some [t,t,f,t],.un .not (.s [f,t,f,t]),none⟩,
  ⟨some [f,f,t,t],.move (.s [t,t,f,t]),none⟩,
  ⟨some [t,f,t,t],.load (some 3) (.s [f,t]),some ([f,f,t,t],f)⟩,
  ⟨some [f,t,t,t],.move (.s [t,t]),some ([f,f,t,t],f)⟩,
  ⟨some [t,t,t,t],.call f (.c (.func 52 [])) [(.s [t,f,t,t]),(.s [f,t,t,t])],some ([f,f,t,t],f)⟩,
  ⟨some [f,f,f,f,f],.un .not (.s [t,t,t,t]),some ([f,f,t,t],f)⟩,
  ⟨some [t,f,f,f,f],.pick (.s [f,f,t,t]) (.c (.bool t)) (.s [f,f,f,f,f]),none⟩]) : CCode)) false true
def c11_o4 : CCode:=(fun (f t : Bool) => (.trim [[f,f,f],[t,f,f],[f,t,f]] (.ops [
  ⟨some [f,t,f,f,f],.move (.s [f,f,f]),none⟩,
  ⟨some [t,t,f,f,f],.len 1 (.s [f,t,f,f,f]),none⟩,
  ⟨some [f,f,t,f,f],.bin .eql (.s [t,t,f,f,f]) (.c (.int .i64 0)),none⟩,
  ⟨some [t,f,t,f,f],.move (.s [f,f,t,f,f]),none⟩,
  ⟨some [f,t,t,f,f],.move (.s [t,f,f]),some ([t,f,t,f,f],t)⟩,
  ⟨some [t,t,t,f,f],.bin .eql (.s [f,t,t,f,f]) (.c (.int .i64 0)),some ([t,f,t,f,f],t)⟩,
  ⟨some [f,f,f,t,f],.pick (.s [t,f,t,f,f]) (.s [t,t,t,f,f]) (.c (.bool f)),none⟩,
  ⟨some [t,f,f,t,f],.move (.s [f,f,f,t,f]),none⟩,
  ⟨some [f,t,f,t,f],.move (.s [f,t,f]),some ([t,f,f,t,f],t)⟩,
  ⟨some [t,t,f,t,f],.bin .eql (.s [f,t,f,t,f]) (.c (.int .i64 2)),some ([t,f,f,t,f],t)⟩,
  ⟨some [f,f,t,t,f],.pick (.s [t,f,f,t,f]) (.s [t,t,f,t,f]) (.c (.bool f)),none⟩,
  ⟨some [t,f,t,t,f],.move (.s [f,f,t,t,f]),none⟩,
  ⟨some [f,t,t,t,f],.call f (.c (.func 23 [])) [],some ([t,f,t,t,f],t)⟩,
  ⟨some [t,t,t,t,f],.pick (.s [t,f,t,t,f]) (.s [f,t,t,t,f]) (.c (.bool f)),none⟩,
  ⟨some [t,f],.move (.s [t,t,t,t,f]),none⟩]) : CCode)) false true
def c11_o5 : CCode:=(fun (f t : Bool) => (.trim [[f,t],[t,t],[f,f,f],[t,f,f],[f,t,f]] (.ops [
  ⟨some [t,f,f,f,t],.load (some 3) (.s [f,t]),none⟩,
  ⟨some [f,t,f,f,t],.move (.s [t,t]),none⟩,
  ⟨some [t,t,f,f,t],.call f (.c (.func 53 [])) [(.s [t,f,f,f,t]),(.s [f,t,f,f,t])],none⟩,
  ⟨some [f,f,f,f,t],.move (.s [t,t,f,f,t]),none⟩,
  ⟨some [f,f,t,f,t],.extract 0 (.s [f,f,f,f,t]),none⟩,
  ⟨some [t,f,t,f,t],.extract 1 (.s [f,f,f,f,t]),none⟩,
  ⟨some [f,t,t,f,t],.extract 2 (.s [f,f,f,f,t]),none⟩,
  ⟨some [t,t,f],.move (.s [f,f,t,f,t]),none⟩,
  ⟨some [f,f,t],.move (.s [t,f,t,f,t]),none⟩,
  ⟨some [t,f,t],.move (.s [f,t,t,f,t]),none⟩]) : CCode)) false true
def c11_o6 : CCode:=(fun (f t : Bool) => (.trim [[f,f,f],[t,f,f],[f,t,f],[t,t,f],[f,f,t],[t,f,t]] (.ops [
  ⟨some [t,t,t,f,t],.move (.s [t,f,t]),none⟩,
  ⟨some [f,f,f,t,t],.un .not (.s [t,t,t,f,t]),none⟩]) : CCode)) false true
def c11_o7 : CCode:=(fun (f t : Bool) => (.trim [[f,f,f],[t,f,f],[f,t,f]] (.ops [
  ⟨some [t,f,f,t,t],.move (.s [f,f,f]),none⟩,
  ⟨some [f,t,f,t,t],.len 1 (.s [t,f,f,t,t]),none⟩,
  ⟨some [t,t,f,t,t],.bin .eql (.s [f,t,f,t,t]) (.c (.int .i64 0)),none⟩,
  ⟨some [f,f,t,t,t],.move (.s [t,t,f,t,t]),none⟩,
  ⟨some [t,f,t,t,t],.move (.s [t,f,f]),some ([f,f,t,t,t],t)⟩,
  ⟨some [f,t,t,t,t],.bin .eql (.s [t,f,t,t,t]) (.c (.int .i64 0)),some ([f,f,t,t,t],t)⟩,
  ⟨some [t,t,t,t,t],.pick (.s [f,f,t,t,t]) (.s [f,t,t,t,t]) (.c (.bool f)),none⟩,
  ⟨some [f,f,f,f,f,f],.move (.s [t,t,t,t,t]),none⟩,
  ⟨some [t,f,f,f,f,f],.move (.s [f,t,f]),some ([f,f,f,f,f,f],t)⟩,
  ⟨some [f,t,f,f,f,f],.bin .eql (.s [t,f,f,f,f,f]) (.c (.int .i64 6)),some ([f,f,f,f,f,f],t)⟩,
  ⟨some [t,t,f,f,f,f],.pick (.s [f,f,f,f,f,f]) (.s [f,t,f,f,f,f]) (.c (.bool f)),none⟩,
  ⟨some [f,f,t,f,f,f],.move (.s [t,t,f,f,f,f]),none⟩,
  ⟨some [t,f,t,f,f,f],.call f (.c (.func 23 [])) [],some ([f,f,t,f,f,f],t)⟩,
  ⟨some [f,t,t,f,f,f],.pick (.s [f,f,t,f,f,f]) (.s [t,f,t,f,f,f]) (.c (.bool f)),none⟩,
  ⟨some [t,f],.move (.s [f,t,t,f,f,f]),none⟩]) : CCode)) false true
def c11_o8 : CCode:=(fun (f t : Bool) => (.trim [[f,f,f],[t,f,f],[f,t,f],[t,t,f],[f,f,t]] (.ops [
  ⟨some [t,t,t,f,f,f],.move (.s [f,f,f]),none⟩,
  ⟨some [f,f,f,t,f,f],.move (.s [t,t,f]),none⟩,
  ⟨some [t,f,f,t,f,f],.call f (.c (.func 29 [])) [(.s [t,t,t,f,f,f]),(.s [f,f,f,t,f,f])],none⟩,
  ⟨some [f,t,f,t,f,f],.move (.s [t,f,f,t,f,f]),none⟩,
  ⟨some [t,t,f,t,f,f],.move (.s [t,f,f]),some ([f,t,f,t,f,f],t)⟩,
  ⟨some [f,f,t,t,f,f],.move (.s [f,f,t]),some ([f,t,f,t,f,f],t)⟩,
  ⟨some [t,f,t,t,f,f],.bin .eql (.s [t,t,f,t,f,f]) (.s [f,f,t,t,f,f]),some ([f,t,f,t,f,f],t)⟩,
  ⟨some [f,t,t,t,f,f],.pick (.s [f,t,f,t,f,f]) (.s [t,f,t,t,f,f]) (.c (.bool f)),none⟩,
  ⟨some [t,t,t,t,f,f],.move (.s [f,t,t,t,f,f]),none⟩,
  ⟨some [f,f,f,f,t,f],.move (.s [f,t,f]),some ([t,t,t,t,f,f],t)⟩,
  ⟨some [t,f,f,f,t,f],.bin .eql (.s [f,f,f,f,t,f]) (.c (.int .i64 0)),some ([t,t,t,t,f,f],t)⟩,
  ⟨some [f,t,f,f,t,f],.pick (.s [t,t,t,t,f,f]) (.s [t,f,f,f,t,f]) (.c (.bool f)),none⟩,
  ⟨some [t,t,f,f,t,f],.move (.s [f,t,f,f,t,f]),none⟩,
  ⟨some [f,f,t,f,t,f],.call f (.c (.func 23 [])) [],some ([t,t,f,f,t,f],t)⟩,
  ⟨some [t,f,t,f,t,f],.pick (.s [t,t,f,f,t,f]) (.s [f,f,t,f,t,f]) (.c (.bool f)),none⟩,
  ⟨some [t,f],.move (.s [t,f,t,f,t,f]),none⟩]) : CCode)) false true
def c11 : CFunc:=(fun (f t : Bool) => ({ params:=[[],[f]],results:=[.slot [t,f]],shared:=f,body:=(.seq c11_o0
 (.seq c11_o1
 (.seq c11_o2
 (.seq (.seq c11_o3
 (.cond (.s [t,f,f,f,f]) (.seq c11_o4
 .ret) .skip))
 (.seq c11_o5
 (.seq (.seq c11_o6
 (.cond (.s [f,f,f,t,t]) (.seq c11_o7
 .ret) .skip))
 (.seq c11_o8
 .ret))))))) } : CFunc)) false true
def c19_o0 : CCode:=(fun (f t : Bool) => (.trim [[],[f]] (.ops [
  ⟨some [t,f],.move (.c (.int .i64 0)),none⟩]) : CCode)) false true
def c19_o1 : CCode:=(fun (f t : Bool) => (.trim [[],[f]] (.ops [
  ⟨some [f,t],.move (.s []),none⟩,
  ⟨some [t,t],.conv .u64 (.s [f,t]),none⟩,
  ⟨some [f,f,f],.move (.s [f]),none⟩,
  ⟨some [t,f,f],.conv .u64 (.s [f,f,f]),none⟩,
  ⟨some [f,t,f],.bin .rem (.s [t,t]) (.s [t,f,f]),none⟩,
  ⟨some [t,t,f],.conv .i64 (.s [f,t,f]),none⟩,
  ⟨some [t,f],.move (.s [t,t,f]),none⟩]) : CCode)) false true
def c19 : CFunc:=(fun (f t : Bool) => ({ params:=[[],[f]],results:=[.slot [t,f]],shared:=f,body:=(.seq c19_o0
 (.seq c19_o1
 .ret)) } : CFunc)) false true
def c21_o0 : CCode:=(fun (f t : Bool) => (.trim [[],[f],[t]] (.ops [
  ⟨some [f,f],.box none (.s []),none⟩,
  ⟨some [t,t],.move (.c (.int .i64 0)),none⟩,
  ⟨some [f,f,f],.move (.c (.int .i64 0)),none⟩]) : CCode)) false true
def c21_o1 : CCode:=(fun (f t : Bool) => (.trim [[f],[t],[f,f]] (.ops [
  ⟨some [t,f,t],.load (some 3) (.s [f,f]),none⟩,
  ⟨some [f,t,t],.call f (.c (.func 57 [])) [(.s [t,f,t])],none⟩,
  ⟨some [t,t,t],.un .not (.s [f,t,t]),none⟩,
  ⟨some [f,f,f,f],.move (.s [t,t,t]),none⟩,
  ⟨some [t,f,f,f],.move (.s [f]),some ([f,f,f,f],f)⟩,
  ⟨some [f,t,f,f],.call f (.c (.func 60 [])) [(.s [t,f,f,f]),(.c (.int .i64 1)),(.c (.int .i64 5))],some ([f,f,f,f],f)⟩,
  ⟨some [t,t,f,f],.un .not (.s [f,t,f,f]),some ([f,f,f,f],f)⟩,
  ⟨some [f,f,t,f],.pick (.s [f,f,f,f]) (.c (.bool t)) (.s [t,t,f,f]),none⟩,
  ⟨some [t,f,t,f],.move (.s [f,f,t,f]),none⟩,
  ⟨some [f,t,t,f],.move (.s [t]),some ([t,f,t,f],f)⟩,
  ⟨some [t,t,t,f],.call f (.c (.func 60 [])) [(.s [f,t,t,f]),(.c (.int .i64 0)),(.c (.int .i64 40))],some ([t,f,t,f],f)⟩,
  ⟨some [f,f,f,t],.un .not (.s [t,t,t,f]),some ([t,f,t,f],f)⟩,
  ⟨some [t,f,f,t],.pick (.s [t,f,t,f]) (.c (.bool t)) (.s [f,f,f,t]),none⟩]) : CCode)) false true
def c21_o2 : CCode:=(fun (f t : Bool) => (.trim [] (.ops [
  ⟨some [t,t],.move (.c (.int .i64 0)),none⟩,
  ⟨some [f,f,f],.move (.c (.int .i64 2)),none⟩]) : CCode)) false true
def c21_o3 : CCode:=(fun (f t : Bool) => (.trim [[f],[t],[f,f]] (.ops [
  ⟨some [t,t,f,t],.load (some 3) (.s [f,f]),none⟩,
  ⟨some [f,f,t,t],.move (.s [f]),none⟩,
  ⟨some [t,f,t,t],.call f (.c (.func 61 [])) [(.s [t,t,f,t]),(.s [f,f,t,t])],none⟩,
  ⟨some [f,t,t,t],.move (.s [t]),none⟩,
  ⟨some [t,t,t,t],.call f (.c (.func 62 [])) [(.s [t,f,t,t]),(.s [f,t,t,t])],none⟩,
  ⟨some [f,t,f,t],.move (.s [t,t,t,t]),none⟩,
  ⟨some [f,f,f,f,f],.extract 0 (.s [f,t,f,t]),none⟩,
  ⟨some [t,f,f,f,f],.extract 1 (.s [f,t,f,t]),none⟩,
  ⟨some [t,f,f],.move (.s [f,f,f,f,f]),none⟩,
  ⟨some [f,t,f],.move (.s [t,f,f,f,f]),none⟩]) : CCode)) false true
def c21_o4 : CCode:=(fun (f t : Bool) => (.trim [[t],[t,f,f],[f,t,f]] (.ops [
  ⟨some [f,t,f,f,f],.move (.s [f,t,f]),none⟩,
  ⟨some [t,t,f,f,f],.un .not (.s [f,t,f,f,f]),none⟩]) : CCode)) false true
def c21_o5 : CCode:=(fun (f t : Bool) => (.trim [] (.ops [
  ⟨some [t,t],.move (.c (.int .i64 0)),none⟩,
  ⟨some [f,f,f],.move (.c (.int .i64 5)),none⟩]) : CCode)) false true
def c21_o6 : CCode:=(fun (f t : Bool) => (.trim [[t],[t,f,f]] (.ops [
  ⟨some [f,f,t,f,f],.move (.s [t]),none⟩,
  ⟨some [t,f,t,f,f],.bin .eql (.s [f,f,t,f,f]) (.c (.int .i64 0)),none⟩]) : CCode)) false true
def c21_o7 : CCode:=(fun (f t : Bool) => (.trim [] (.ops [
  ⟨some [t,t],.move (.c (.int .i64 1)),none⟩,
  ⟨some [f,f,f],.move (.c (.int .i64 0)),none⟩]) : CCode)) false true
def c21_o8 : CCode:=(fun (f t : Bool) => (.trim [[t],[t,f,f]] (.ops [
  ⟨some [t,t,t,f,f],.move (.s [t,f,f]),none⟩,
  ⟨some [f,f,f,t,f],.move (.s [t]),none⟩,
  ⟨some [t,f,f,t,f],.bin .sub (.s [f,f,f,t,f]) (.c (.int .i64 1)),none⟩,
  ⟨some [f,t,f,t,f],.idxSl 1 (.s [t,t,t,f,f]) (.s [t,f,f,t,f]),none⟩,
  ⟨some [t,t,f,t,f],.load none (.s [f,t,f,t,f]),none⟩,
  ⟨some [f,f,t,t,f],.call f (.c (.func 63 [])) [(.s [t,t,f,t,f]),(.c (.int .i64 1152921504606846976))],none⟩,
  ⟨some [f,t,t,f,f],.move (.s [f,f,t,t,f]),none⟩,
  ⟨some [t,f,t,t,f],.extract 0 (.s [f,t,t,f,f]),none⟩,
  ⟨some [f,t,t,t,f],.extract 1 (.s [f,t,t,f,f]),none⟩,
  ⟨some [t,t,f],.move (.s [t,f,t,t,f]),none⟩,
  ⟨some [f,f,t],.move (.s [f,t,t,t,f]),none⟩]) : CCode)) false true
def c21_o9 : CCode:=(fun (f t : Bool) => (.trim [[t,t,f]] (.ops [
  ⟨some [t,t,t,t,f],.move (.s [t,t,f]),none⟩,
  ⟨some [t,t],.move (.s [t,t,t,t,f]),none⟩,
  ⟨some [f,f,f],.move (.c (.int .i64 0)),none⟩]) : CCode)) false true
def c21 : CFunc:=(fun (f t : Bool) => ({ params:=[[],[f],[t]],results:=[.slot [t,t],.slot [f,f,f]],shared:=f,body:=(.seq c21_o0
 (.seq (.seq c21_o1
 (.cond (.s [t,f,f,t]) (.seq c21_o2
 .ret) .skip))
 (.seq c21_o3
 (.seq (.seq c21_o4
 (.cond (.s [t,t,f,f,f]) (.seq c21_o5
 .ret) .skip))
 (.seq (.seq c21_o6
 (.cond (.s [t,f,t,f,f]) (.seq c21_o7
 .ret) .skip))
 (.seq c21_o8
 (.seq c21_o9
 .ret))))))) } : CFunc)) false true
def c23_o0 : CCode:=(fun (f t : Bool) => (.trim [] (.ops [
  ⟨some [],.move (.c (.bool f)),none⟩]) : CCode)) false true
def c23_o1 : CCode:=(fun (f t : Bool) => (.trim [] (.ops [
  ⟨some [t,f,f],.call f (.c (.func 65 [])) [],none⟩,
  ⟨some [f,t,f],.call f (.c (.func 25 [])) [(.s [t,f,f]),(.c (.int .i64 2))],none⟩,
  ⟨some [f,f,f],.move (.s [f,t,f]),none⟩,
  ⟨some [t,t,f],.extract 0 (.s [f,f,f]),none⟩,
  ⟨some [f,f,t],.extract 1 (.s [f,f,f]),none⟩,
  ⟨some [f],.move (.s [t,t,f]),none⟩,
  ⟨some [t],.move (.s [f,f,t]),none⟩]) : CCode)) false true
def c23_o2 : CCode:=(fun (f t : Bool) => (.trim [[f],[t]] (.ops [
  ⟨some [f,t,t],.call f (.c (.func 65 [])) [],none⟩,
  ⟨some [t,t,t],.call f (.c (.func 21 [])) [(.s [f,t,t]),(.c (.int .i64 2)),(.c (.int .i64 2))],none⟩,
  ⟨some [t,f,t],.move (.s [t,t,t]),none⟩,
  ⟨some [f,f,f,f],.extract 0 (.s [t,f,t]),none⟩,
  ⟨some [t,f,f,f],.extract 1 (.s [t,f,t]),none⟩,
  ⟨some [f,f],.move (.s [f,f,f,f]),none⟩,
  ⟨some [t,f],.move (.s [t,f,f,f]),none⟩]) : CCode)) false true
def c23_o3 : CCode:=(fun (f t : Bool) => (.trim [[f],[t],[f,f],[t,f]] (.ops [
  ⟨some [t,t,f,f],.buildSlice none 1 2 [.int .i64 0,.int .i64 0] [(0,1,(.c (.int .i64 1))),(1,1,(.c (.int .i64 1)))],none⟩,
  ⟨some [f,f,t,f],.buildSlice none 1 2 [.int .i64 0,.int .i64 0] [(0,1,(.c (.int .i64 1))),(1,1,(.c (.int .i64 1)))],none⟩,
  ⟨some [t,f,t,f],.buildSlice none 1 2 [.nils,.nils] [(0,1,(.s [t,t,f,f])),(1,1,(.s [f,f,t,f]))],none⟩,
  ⟨some [f,t,t,f],.buildSlice none 1 2 [.int .i64 0,.int .i64 0] [(0,1,(.c (.int .i64 0))),(1,1,(.c (.int .i64 1)))],none⟩,
  ⟨some [t,t,t,f],.buildSlice none 1 2 [.int .i64 0,.int .i64 0] [(0,1,(.c (.int .i64 0))),(1,1,(.c (.int .i64 0)))],none⟩,
  ⟨some [f,f,f,t],.buildSlice none 1 2 [.nils,.nils] [(0,1,(.s [f,t,t,f])),(1,1,(.s [t,t,t,f]))],none⟩,
  ⟨some [t,f,f,t],.build [.int .i64 0,.nils,.nils] [(0,1,(.c (.int .i64 2))),(1,1,(.s [t,f,t,f])),(2,1,(.s [f,f,f,t]))],none⟩,
  ⟨some [f,t,f,t],.call f (.c (.func 35 [])) [(.s [t,f,f,t]),(.c (.int .i64 2))],none⟩,
  ⟨some [f,t,f,f],.move (.s [f,t,f,t]),none⟩,
  ⟨some [t,t,f,t],.extract 0 (.s [f,t,f,f]),none⟩,
  ⟨some [f,f,t,t],.extract 1 (.s [f,t,f,f]),none⟩,
  ⟨some [f,t],.move (.s [t,t,f,t]),none⟩,
  ⟨some [t,t],.move (.s [f,f,t,t]),none⟩]) : CCode)) false true
def c23_o4 : CCode:=(fun (f t : Bool) => (.trim [[f],[t],[f,f],[t,f],[f,t],[t,t]] (.ops [
  ⟨some [t,f,t,t],.move (.s [t]),none⟩,
  ⟨some [f,t,t,t],.bin .neq (.s [t,f,t,t]) (.c (.int .i64 0)),none⟩,
  ⟨some [t,t,t,t],.move (.s [f,t,t,t]),none⟩,
  ⟨some [f,f,f,f,f],.move (.s [f]),some ([t,t,t,t],f)⟩,
  ⟨some [t,f,f,f,f],.buildSlice none 1 3 [.str [],.str [],.str []] [(0,1,(.c (.str [48,48]))),(1,1,(.c (.str [48,49]))),(2,1,(.c (.str [49,48])))],some ([t,t,t,t],f)⟩,
  ⟨some [f,t,f,f,f],.call f (.c (.func 29 [])) [(.s [f,f,f,f,f]),(.s [t,f,f,f,f])],some ([t,t,t,t],f)⟩,
  ⟨some [t,t,f,f,f],.un .not (.s [f,t,f,f,f]),some ([t,t,t,t],f)⟩,
  ⟨some [f,f,t,f,f],.pick (.s [t,t,t,t]) (.c (.bool t)) (.s [t,t,f,f,f]),none⟩,
  ⟨some [t,f,t,f,f],.move (.s [f,f,t,f,f]),none⟩,
  ⟨some [f,t,t,f,f],.move (.s [t,f]),some ([t,f,t,f,f],f)⟩,
  ⟨some [t,t,t,f,f],.bin .neq (.s [f,t,t,f,f]) (.c (.int .i64 0)),some ([t,f,t,f,f],f)⟩,
  ⟨some [f,f,f,t,f],.pick (.s [t,f,t,f,f]) (.c (.bool t)) (.s [t,t,t,f,f]),none⟩,
  ⟨some [t,f,f,t,f],.move (.s [f,f,f,t,f]),none⟩,
  ⟨some [f,t,f,t,f],.move (.s [f,f]),some ([t,f,f,t,f],f)⟩,
  ⟨some [t,t,f,t,f],.bin .neq (.s [f,t,f,t,f]) (.c (.int .i64 7)),some ([t,f,f,t,f],f)⟩,
  ⟨some [f,f,t,t,f],.pick (.s [t,f,f,t,f]) (.c (.bool t)) (.s [t,t,f,t,f]),none⟩,
  ⟨some [t,f,t,t,f],.move (.s [f,f,t,t,f]),none⟩,
  ⟨some [f,t,t,t,f],.move (.s [t,t]),some ([t,f,t,t,f],f)⟩,
  ⟨some [t,t,t,t,f],.bin .neq (.s [f,t,t,t,f]) (.c (.int .i64 0)),some ([t,f,t,t,f],f)⟩,
  ⟨some [f,f,f,f,t],.pick (.s [t,f,t,t,f]) (.c (.bool t)) (.s [t,t,t,t,f]),none⟩,
  ⟨some [t,f,f,f,t],.move (.s [f,f,f,f,t]),none⟩,
  ⟨some [f,t,f,f,t],.move (.s [f,t]),some ([t,f,f,f,t],f)⟩,
  ⟨some [t,t,f,f,t],.bin .neq (.s [f,t,f,f,t]) (.c (.int .i64 2)),some ([t,f,f,f,t],f)⟩,
  ⟨some [f,f,t,f,t],.pick (.s [t,f,f,f,t]) (.c (.bool t)) (.s [t,t,f,f,t]),none⟩]) : CCode)) false true
def c23_o5 : CCode:=(fun (f t : Bool) => (.trim [] (.ops [
  ⟨some [],.move (.c (.bool f)),none⟩]) : CCode)) false true
def c23_o6 : CCode:=(fun (f t : Bool) => (.trim [] (.ops [
  ⟨some [],.move (.c (.bool f)),none⟩]) : CCode)) false true
def c23_o7 : CCode:=(fun (f t : Bool) => (.trim [] (.ops [
  ⟨some [],.move (.c (.bool t)),none⟩]) : CCode)) false true
def c23 : CFunc:=(fun (f t : Bool) => ({ params:=[],results:=[.slot []],shared:=f,body:=(.seq c23_o0
 (.seq c23_o1
 (.seq c23_o2
 (.seq c23_o3
 (.seq (.seq c23_o4
 (.cond (.s [f,f,t,f,t]) (.seq c23_o5
 .ret) .skip))
 (.seq (.cond (.c (.bool f)) (.seq c23_o6
 .ret) .skip)
 (.seq c23_o7
 .ret))))))) } : CFunc)) false true
def c24_o0 : CCode:=(fun (f t : Bool) => (.trim [[]] (.ops [
  ⟨some [f],.box none (.s []),none⟩,
  ⟨some [t],.alloc none [.int .i64 0,.nils,.nils],none⟩]) : CCode)) false true
def c24_o1 : CCode:=(fun (f t : Bool) => (.trim [[f],[t]] (.draw 0 [
  ⟨some [f,f],.fieldAddr 0 (.s [f]),none⟩,
  ⟨some [t,f],.load none (.s [f,f]),none⟩,
  ⟨some [f,t],.fieldAddr 1 (.s [f]),none⟩,
  ⟨some [t,t],.load none (.s [f,t]),none⟩,
  ⟨some [f,f,f],.call f (.c (.func 66 [])) [(.s [t,t])],none⟩,
  ⟨some [t,f,f],.fieldAddr 2 (.s [f]),none⟩,
  ⟨some [f,t,f],.load none (.s [t,f,f]),none⟩,
  ⟨some [t,t,f],.call f (.c (.func 66 [])) [(.s [f,t,f])],none⟩,
  ⟨some [f,f,t],.build [.int .i64 0,.nils,.nils] [(0,1,(.s [t,f])),(1,1,(.s [f,f,f])),(2,1,(.s [t,t,f]))],none⟩,
  ⟨none,.store 3 (.s [t]) (.s [f,f,t]),none⟩]
  [(1,3),(1,4),(1,6),(3,6),(4,6),(1,7)] [[],[0],[],[2],[2,3],[],[5],[2,3,4,5,6],(r 8),(r 9)]) : CCode)) false true
def c24 : CFunc:=(fun (f t : Bool) => ({ params:=[[]],results:=[.cell [t] (some 3)],shared:=f,body:=(.seq c24_o0
 (.seq c24_o1
 .ret)) } : CFunc)) false true
def c25_o0 : CCode:=(fun (f t : Bool) => (.trim [[],[f]] (.ops [
  ⟨some [t],.box none (.s []),none⟩,
  ⟨some [t,f],.move (.c (.nils)),none⟩,
  ⟨some [f,t],.move (.c (.int .i64 0)),none⟩]) : CCode)) false true
def c25_o1 : CCode:=(fun (f t : Bool) => (.trim [[f],[t]] (.ops [
  ⟨some [t,t],.load (some 3) (.s [t]),none⟩,
  ⟨some [f,f,f],.call f (.c (.func 57 [])) [(.s [t,t])],none⟩,
  ⟨some [t,f,f],.un .not (.s [f,f,f]),none⟩,
  ⟨some [f,t,f],.move (.s [t,f,f]),none⟩,
  ⟨some [t,t,f],.move (.s [f]),some ([f,t,f],f)⟩,
  ⟨some [f,f,t],.call f (.c (.func 60 [])) [(.s [t,t,f]),(.c (.int .i64 1)),(.c (.int .i64 5))],some ([f,t,f],f)⟩,
  ⟨some [t,f,t],.un .not (.s [f,f,t]),some ([f,t,f],f)⟩,
  ⟨some [f,t,t],.pick (.s [f,t,f]) (.c (.bool t)) (.s [t,f,t]),none⟩]) : CCode)) false true
def c25_o2 : CCode:=(fun (f t : Bool) => (.trim [] (.ops [
  ⟨some [t,f],.move (.c (.nils)),none⟩,
  ⟨some [f,t],.move (.c (.int .i64 2)),none⟩]) : CCode)) false true
def c25_o3 : CCode:=(fun (f t : Bool) => (.trim [[f],[t]] (.ops [
  ⟨some [t,t,t],.load (some 3) (.s [t]),none⟩,
  ⟨some [f,f,f,f],.move (.s [f]),none⟩,
  ⟨some [t,f,f,f],.call f (.c (.func 61 [])) [(.s [t,t,t]),(.s [f,f,f,f])],none⟩,
  ⟨some [f,t,f,f],.nilCheck (.s [t,f,f,f]),none⟩,
  ⟨some [t,t,f,f],.fieldAddr 0 (.s [f,t,f,f]),none⟩,
  ⟨some [f,f,t,f],.load none (.s [t,t,f,f]),none⟩,
  ⟨some [t,f],.move (.s [f,f,t,f]),none⟩,
  ⟨some [f,t],.move (.c (.int .i64 0)),none⟩]) : CCode)) false true
def c25 : CFunc:=(fun (f t : Bool) => ({ params:=[[],[f]],results:=[.slot [t,f],.slot [f,t]],shared:=f,body:=(.seq c25_o0
 (.seq (.seq c25_o1
 (.cond (.s [f,t,t]) (.seq c25_o2
 .ret) .skip))
 (.seq c25_o3
 .ret))) } : CFunc)) false true
def c27_o0 : CCode:=(fun (f t : Bool) => (.trim [[]] (.ops [
  ⟨some [f],.box none (.s []),none⟩,
  ⟨some [t],.move (.c (.bool f)),none⟩]) : CCode)) false true
def c27_o1 : CCode:=(fun (f t : Bool) => (.trim [[f]] (.ops [
  ⟨some [f,f],.fieldAddr 0 (.s [f]),none⟩,
  ⟨some [t,f],.load none (.s [f,f]),none⟩,
  ⟨some [f,t],.bin .geq (.s [t,f]) (.c (.int .i64 1)),none⟩,
  ⟨some [t,t],.move (.s [f,t]),none⟩,
  ⟨some [f,f,f],.fieldAddr 0 (.s [f]),some ([t,t],t)⟩,
  ⟨some [t,f,f],.load none (.s [f,f,f]),some ([t,t],t)⟩,
  ⟨some [f,t,f],.bin .leq (.s [t,f,f]) (.c (.int .i64 3)),some ([t,t],t)⟩,
  ⟨some [t,t,f],.pick (.s [t,t]) (.s [f,t,f]) (.c (.bool f)),none⟩,
  ⟨some [f,f,t],.move (.s [t,t,f]),none⟩,
  ⟨some [t,f,t],.fieldAddr 1 (.s [f]),some ([f,f,t],t)⟩,
  ⟨some [f,t,t],.load none (.s [t,f,t]),some ([f,f,t],t)⟩,
  ⟨some [t,t,t],.fieldAddr 0 (.s [f]),some ([f,f,t],t)⟩,
  ⟨some [f,f,f,f],.load none (.s [t,t,t]),some ([f,f,t],t)⟩,
  ⟨some [t,f,f,f],.call f (.c (.func 67 [])) [(.s [f,t,t]),(.s [f,f,f,f])],some ([f,f,t],t)⟩,
  ⟨some [f,t,f,f],.pick (.s [f,f,t]) (.s [t,f,f,f]) (.c (.bool f)),none⟩,
  ⟨some [t,t,f,f],.move (.s [f,t,f,f]),none⟩,
  ⟨some [f,f,t,f],.fieldAddr 2 (.s [f]),some ([t,t,f,f],t)⟩,
  ⟨some [t,f,t,f],.load none (.s [f,f,t,f]),some ([t,t,f,f],t)⟩,
  ⟨some [f,t,t,f],.fieldAddr 0 (.s [f]),some ([t,t,f,f],t)⟩,
  ⟨some [t,t,t,f],.load none (.s [f,t,t,f]),some ([t,t,f,f],t)⟩,
  ⟨some [f,f,f,t],.call f (.c (.func 67 [])) [(.s [t,f,t,f]),(.s [t,t,t,f])],some ([t,t,f,f],t)⟩,
  ⟨some [t,f,f,t],.pick (.s [t,t,f,f]) (.s [f,f,f,t]) (.c (.bool f)),none⟩,
  ⟨some [t],.move (.s [t,f,f,t]),none⟩]) : CCode)) false true
def c27 : CFunc:=(fun (f t : Bool) => ({ params:=[[]],results:=[.slot [t]],shared:=f,body:=(.seq c27_o0
 (.seq c27_o1
 .ret)) } : CFunc)) false true
def c29_o0 : CCode:=(fun (f t : Bool) => (.trim [[],[f]] (.ops [
  ⟨some [t,f],.move (.c (.bool f)),none⟩]) : CCode)) false true
def c29_o1 : CCode:=(fun (f t : Bool) => (.trim [[],[f]] (.ops [
  ⟨some [t,t],.move (.s []),none⟩,
  ⟨some [f,f,f],.len 1 (.s [t,t]),none⟩,
  ⟨some [t,f,f],.move (.s [f]),none⟩,
  ⟨some [f,t,f],.len 1 (.s [t,f,f]),none⟩,
  ⟨some [t,t,f],.bin .neq (.s [f,f,f]) (.s [f,t,f]),none⟩]) : CCode)) false true
def c29_o2 : CCode:=(fun (f t : Bool) => (.trim [] (.ops [
  ⟨some [t,f],.move (.c (.bool f)),none⟩]) : CCode)) false true
def c29_o3 : CCode:=(fun (f t : Bool) => (.trim [[],[f]] (.ops [
  ⟨some [f,t],.move (.c (.int .i64 0)),none⟩]) : CCode)) false true
def c29_o4 : CCode:=(fun (f t : Bool) => (.trim [[],[f],[f,t]] (.ops [
  ⟨some [f,f,t],.move (.s [f,t]),none⟩,
  ⟨some [t,f,t],.move (.s []),none⟩,
  ⟨some [f,t,t],.len 1 (.s [t,f,t]),none⟩,
  ⟨some [t,t,t],.bin .lss (.s [f,f,t]) (.s [f,t,t]),none⟩]) : CCode)) false true
def c29_o5 : CCode:=(fun (f t : Bool) => (.trim [[],[f],[f,t]] (.draw 0 [
  ⟨some [f,t,f,f],.move (.s []),none⟩,
  ⟨some [t,t,f,f],.move (.s [f,t]),none⟩,
  ⟨some [f,f,t,f],.idxSl 1 (.s [f,t,f,f]) (.s [t,t,f,f]),none⟩,
  ⟨some [t,f,t,f],.load none (.s [f,f,t,f]),none⟩,
  ⟨some [f,t,t,f],.move (.s [f]),none⟩,
  ⟨some [t,t,t,f],.move (.s [f,t]),none⟩,
  ⟨some [f,f,f,t],.idxSl 1 (.s [f,t,t,f]) (.s [t,t,t,f]),none⟩,
  ⟨some [t,f,f,t],.load none (.s [f,f,f,t]),none⟩,
  ⟨some [f,t,f,t],.bin .neq (.s [t,f,t,f]) (.s [t,f,f,t]),none⟩]
  [(3,7)] [[],[],[0,1],[0,1,2],[],[],[4,5],[4,5,6],(r 8)]) : CCode)) false true
def c29_o6 : CCode:=(fun (f t : Bool) => (.trim [] (.ops [
  ⟨some [t,f],.move (.c (.bool f)),none⟩]) : CCode)) false true
def c29_o7 : CCode:=(fun (f t : Bool) => (.trim [[],[f],[f,t]] (.ops [
  ⟨some [f,f,f,f],.move (.s [f,t]),none⟩,
  ⟨some [t,f,f,f],.bin .add (.s [f,f,f,f]) (.c (.int .i64 1)),none⟩,
  ⟨some [f,t],.move (.s [t,f,f,f]),none⟩]) : CCode)) false true
def c29_b0 : CCode:=(fun (f t : Bool) => ((.seq (.seq c29_o4
 (.cond (.s [t,t,t]) .skip (.exit 0)))
 (.seq (.block 1 (.seq c29_o5
 (.cond (.s [f,t,f,t]) (.seq c29_o6
 .ret) .skip)))
 c29_o7)) : CCode)) false true
def c29_l0 : CCode:=(fun (f t : Bool) => (.loop [[],[f],[f,t]] c29_b0 : CCode)) false true
def c29_o8 : CCode:=(fun (f t : Bool) => (.trim [] (.ops [
  ⟨some [t,f],.move (.c (.bool t)),none⟩]) : CCode)) false true
def c29 : CFunc:=(fun (f t : Bool) => ({ params:=[[],[f]],results:=[.slot [t,f]],shared:=f,body:=(.seq c29_o0
 (.seq (.seq c29_o1
 (.cond (.s [t,t,f]) (.seq c29_o2
 .ret) .skip))
 (.seq (.seq c29_o3
 (.block 0 c29_l0))
 (.seq c29_o8
 .ret)))) } : CFunc)) false true
def c30_o0 : CCode:=(fun (f t : Bool) => (.trim [[],[f]] (.ops [
  ⟨some [t],.box none (.s []),none⟩,
  ⟨some [t,f],.move (.c (.nils)),none⟩]) : CCode)) false true
def c30_o1 : CCode:=(fun (f t : Bool) => (.trim [[f],[t]] (.ops [
  ⟨some [f,f,t],.buildSlice none 1 1 [.str []] [(0,1,(.c (.str [])))],none⟩,
  ⟨some [f,t],.move (.s [f,f,t]),none⟩]) : CCode)) false true
def c30_o2 : CCode:=(fun (f t : Bool) => (.trim [[f],[t],[f,t]] (.ops [
  ⟨some [t,t],.move (.c (.int .i64 0)),none⟩]) : CCode)) false true
def c30_o3 : CCode:=(fun (f t : Bool) => (.trim [[f],[t],[f,t],[t,t]] (.ops [
  ⟨some [t,f,t],.move (.s [t,t]),none⟩,
  ⟨some [f,t,t],.move (.s [f]),none⟩,
  ⟨some [t,t,t],.bin .lss (.s [t,f,t]) (.s [f,t,t]),none⟩]) : CCode)) false true
def c30_o4 : CCode:=(fun (f t : Bool) => (.trim [[f],[t],[f,t],[t,t]] (.ops [
  ⟨some [f,f,f],.move (.c (.nils)),none⟩]) : CCode)) false true
def c30_o5 : CCode:=(fun (f t : Bool) => (.trim [[f],[t],[f,t],[t,t],[f,f,f]] (.ops [
  ⟨some [t,f,f],.move (.c (.int .i64 0)),none⟩]) : CCode)) false true
def c30_o6 : CCode:=(fun (f t : Bool) => (.trim [[f],[t],[f,t],[t,t],[f,f,f],[t,f,f]] (.ops [
  ⟨some [f,t,f,f],.move (.s [t,f,f]),none⟩,
  ⟨some [t,t,f,f],.move (.s [f,t]),none⟩,
  ⟨some [f,f,t,f],.len 1 (.s [t,t,f,f]),none⟩,
  ⟨some [t,f,t,f],.bin .lss (.s [f,t,f,f]) (.s [f,f,t,f]),none⟩]) : CCode)) false true
def c30_o7 : CCode:=(fun (f t : Bool) => (.trim [[f],[t],[f,t],[t,t],[f,f,f],[t,f,f]] (.ops [
  ⟨some [f,t,f],.move (.c (.int .i64 0)),none⟩]) : CCode)) false true
def c30_o8 : CCode:=(fun (f t : Bool) => (.trim [[f],[t],[f,t],[t,t],[f,f,f],[t,f,f],[f,t,f]] (.ops [
  ⟨some [f,f,f,t],.move (.s [f,t,f]),none⟩,
  ⟨some [t,f,f,t],.fieldAddr 0 (.s [t]),none⟩,
  ⟨some [f,t,f,t],.load none (.s [t,f,f,t]),none⟩,
  ⟨some [t,t,f,t],.bin .lss (.s [f,f,f,t]) (.s [f,t,f,t]),none⟩]) : CCode)) false true
def c30_o9 : CCode:=(fun (f t : Bool) => (.trim [[f],[t],[f,t],[t,t],[f,f,f],[t,f,f],[f,t,f]] (.draw 1 [
  ⟨some [f,t,t,t],.move (.s [f,t]),none⟩,
  ⟨some [t,t,t,t],.move (.s [t,f,f]),none⟩,
  ⟨some [f,f,f,f,f],.idxSl 1 (.s [f,t,t,t]) (.s [t,t,t,t]),none⟩,
  ⟨some [t,f,f,f,f],.load none (.s [f,f,f,f,f]),none⟩,
  ⟨some [f,t,f,f,f],.move (.s [f,t,f]),none⟩,
  ⟨some [t,t,f,f,f],.bin .add (.c (.int .i64 48)) (.s [f,t,f,f,f]),none⟩,
  ⟨some [f,f,t,f,f],.conv .u8 (.s [t,t,f,f,f]),none⟩,
  ⟨some [t,f,t,f,f],.buildSlice (some 0) 1 1 [.int .u8 0] [(0,1,(.s [f,f,t,f,f]))],none⟩,
  ⟨some [f,t,t,f,f],.bytesStr (.s [t,f,t,f,f]),none⟩,
  ⟨some [t,t,t,f,f],.bin .add (.s [t,f,f,f,f]) (.s [f,t,t,f,f]),none⟩,
  ⟨some [t,t,f],.move (.s [t,t,t,f,f]),none⟩]
  [(3,7),(3,8)] [[],[],[0,1],[0,1,2],[],[4],[4,5],[4,5,6],[4,5,6,7],(r 9),(r 10)]) : CCode)) false true
def c30_o10 : CCode:=(fun (f t : Bool) => (.trim [[f],[t],[f,t],[t,t],[f,f,f],[t,f,f],[f,t,f],[t,t,f]] (.ops [
  ⟨some [f,f,f,t,f],.load (some 3) (.s [t]),none⟩,
  ⟨some [t,f,f,t,f],.move (.s [t,t,f]),none⟩,
  ⟨some [f,t,f,t,f],.call f (.c (.func 68 [])) [(.s [f,f,f,t,f]),(.s [t,f,f,t,f])],none⟩]) : CCode)) false true
def c30_o11 : CCode:=(fun (f t : Bool) => (.trim [[f],[t],[f,t],[t,t],[f,f,f],[t,f,f],[f,t,f],[t,t,f]] (.ops [
  ⟨some [t,t,f,t,f],.move (.s [f,f,f]),none⟩,
  ⟨some [f,f,t,t,f],.move (.s [t,t,f]),none⟩,
  ⟨some [t,f,t,t,f],.buildSlice none 1 1 [.str []] [(0,1,(.s [f,f,t,t,f]))],none⟩,
  ⟨some [f,t,t,t,f],.append none 1 16 (.s [t,t,f,t,f]) (.s [t,f,t,t,f]),none⟩,
  ⟨some [f,f,f],.move (.s [f,t,t,t,f]),none⟩]) : CCode)) false true
def c30_o12 : CCode:=(fun (f t : Bool) => (.trim [[f],[t],[f,t],[t,t],[f,f,f],[t,f,f],[f,t,f]] (.ops [
  ⟨some [f,f,t,t],.move (.s [f,t,f]),none⟩,
  ⟨some [t,f,t,t],.bin .add (.s [f,f,t,t]) (.c (.int .i64 1)),none⟩,
  ⟨some [f,t,f],.move (.s [t,f,t,t]),none⟩]) : CCode)) false true
def c30_b0 : CCode:=(fun (f t : Bool) => ((.seq (.seq c30_o8
 (.cond (.s [t,t,f,t]) .skip (.exit 4)))
 (.seq (.block 5 (.seq c30_o9
 (.seq c30_o10
 (.cond (.s [f,t,f,t,f]) c30_o11 .skip))))
 c30_o12)) : CCode)) false true
def c30_l0 : CCode:=(fun (f t : Bool) => (.loop [[f],[t],[f,t],[t,t],[f,f,f],[t,f,f],[f,t,f]] c30_b0 : CCode)) false true
def c30_o13 : CCode:=(fun (f t : Bool) => (.trim [[f],[t],[f,t],[t,t],[f,f,f],[t,f,f]] (.ops [
  ⟨some [f,t,t,f],.move (.s [t,f,f]),none⟩,
  ⟨some [t,t,t,f],.bin .add (.s [f,t,t,f]) (.c (.int .i64 1)),none⟩,
  ⟨some [t,f,f],.move (.s [t,t,t,f]),none⟩]) : CCode)) false true
def c30_b1 : CCode:=(fun (f t : Bool) => ((.seq (.seq c30_o6
 (.cond (.s [t,f,t,f]) .skip (.exit 2)))
 (.seq (.block 3 (.seq c30_o7
 (.block 4 c30_l0)))
 c30_o13)) : CCode)) false true
def c30_l1 : CCode:=(fun (f t : Bool) => (.loop [[f],[t],[f,t],[t,t],[f,f,f],[t,f,f]] c30_b1 : CCode)) false true
def c30_o14 : CCode:=(fun (f t : Bool) => (.trim [[f],[t],[t,t],[f,f,f]] (.ops [
  ⟨some [t,t,t,t,f],.move (.s [f,f,f]),none⟩,
  ⟨some [f,t],.move (.s [t,t,t,t,f]),none⟩]) : CCode)) false true
def c30_o15 : CCode:=(fun (f t : Bool) => (.trim [[f],[t],[f,t],[t,t]] (.ops [
  ⟨some [f,f,f,f],.move (.s [t,t]),none⟩,
  ⟨some [t,f,f,f],.bin .add (.s [f,f,f,f]) (.c (.int .i64 1)),none⟩,
  ⟨some [t,t],.move (.s [t,f,f,f]),none⟩]) : CCode)) false true
def c30_b2 : CCode:=(fun (f t : Bool) => ((.seq (.seq c30_o3
 (.cond (.s [t,t,t]) .skip (.exit 0)))
 (.seq (.block 1 (.seq c30_o4
 (.seq (.seq c30_o5
 (.block 2 c30_l1))
 c30_o14)))
 c30_o15)) : CCode)) false true
def c30_l2 : CCode:=(fun (f t : Bool) => (.loop [[f],[t],[f,t],[t,t]] c30_b2 : CCode)) false true
def c30_o16 : CCode:=(fun (f t : Bool) => (.trim [[f,t]] (.ops [
  ⟨some [f,f,f,f,t],.move (.s [f,t]),none⟩,
  ⟨some [t,f],.move (.s [f,f,f,f,t]),none⟩]) : CCode)) false true
def c30 : CFunc:=(fun (f t : Bool) => ({ params:=[[],[f]],results:=[.slot [t,f]],shared:=f,body:=(.seq c30_o0
 (.seq c30_o1
 (.seq (.seq c30_o2
 (.block 0 c30_l2))
 (.seq c30_o16
 .ret)))) } : CFunc)) false true
def c31_o0 : CCode:=(fun (f t : Bool) => (.trim [[],[f]] (.ops [
  ⟨some [t],.box none (.s []),none⟩,
  ⟨some [t,f],.move (.c (.nils)),none⟩]) : CCode)) false true
def c31_o1 : CCode:=(fun (f t : Bool) => (.trim [[f],[t]] (.ops [
  ⟨some [t,t,f],.load (some 3) (.s [t]),none⟩,
  ⟨some [f,f,t],.move (.s [f]),none⟩,
  ⟨some [t,f,t],.call f (.c (.func 30 [])) [(.s [t,t,f]),(.s [f,f,t])],none⟩,
  ⟨some [f,t],.move (.s [t,f,t]),none⟩]) : CCode)) false true
def c31_o2 : CCode:=(fun (f t : Bool) => (.trim [[t],[f,t]] (.ops [
  ⟨some [t,t],.move (.c (.nils)),none⟩]) : CCode)) false true
def c31_o3 : CCode:=(fun (f t : Bool) => (.trim [[t],[f,t],[t,t]] (.ops [
  ⟨some [f,f,f],.move (.c (.int .i64 0)),none⟩]) : CCode)) false true
def c31_o4 : CCode:=(fun (f t : Bool) => (.trim [[t],[f,t],[t,t],[f,f,f]] (.ops [
  ⟨some [f,t,t],.move (.s [f,f,f]),none⟩,
  ⟨some [t,t,t],.move (.s [f,t]),none⟩,
  ⟨some [f,f,f,f],.len 1 (.s [t,t,t]),none⟩,
  ⟨some [t,f,f,f],.bin .lss (.s [f,t,t]) (.s [f,f,f,f]),none⟩]) : CCode)) false true
def c31_o5 : CCode:=(fun (f t : Bool) => (.trim [[t],[f,t],[t,t],[f,f,f]] (.ops [
  ⟨some [t,f,f],.move (.c (.nils)),none⟩]) : CCode)) false true
def c31_o6 : CCode:=(fun (f t : Bool) => (.trim [[t],[f,t],[t,t],[f,f,f],[t,f,f]] (.ops [
  ⟨some [f,t,f],.move (.c (.int .i64 0)),none⟩]) : CCode)) false true
def c31_o7 : CCode:=(fun (f t : Bool) => (.trim [[t],[f,t],[t,t],[f,f,f],[t,f,f],[f,t,f]] (.ops [
  ⟨some [f,f,t,f],.move (.s [f,t,f]),none⟩,
  ⟨some [t,f,t,f],.move (.s [f,t]),none⟩,
  ⟨some [f,t,t,f],.len 1 (.s [t,f,t,f]),none⟩,
  ⟨some [t,t,t,f],.bin .lss (.s [f,f,t,f]) (.s [f,t,t,f]),none⟩]) : CCode)) false true
def c31_o8 : CCode:=(fun (f t : Bool) => (.trim [[t],[f,t],[t,t],[f,f,f],[t,f,f],[f,t,f]] (.draw 0 [
  ⟨some [f,t,f,t],.load (some 3) (.s [t]),none⟩,
  ⟨some [t,t,f,t],.move (.s [f,t]),none⟩,
  ⟨some [f,f,t,t],.move (.s [f,f,f]),none⟩,
  ⟨some [t,f,t,t],.idxSl 1 (.s [t,t,f,t]) (.s [f,f,t,t]),none⟩,
  ⟨some [f,t,t,t],.load none (.s [t,f,t,t]),none⟩,
  ⟨some [t,t,t,t],.move (.s [f,t]),none⟩,
  ⟨some [f,f,f,f,f],.move (.s [f,t,f]),none⟩,
  ⟨some [t,f,f,f,f],.idxSl 1 (.s [t,t,t,t]) (.s [f,f,f,f,f]),none⟩,
  ⟨some [f,t,f,f,f],.load none (.s [t,f,f,f,f]),none⟩,
  ⟨some [t,t,f,f,f],.call f (.c (.func 69 [])) [(.s [f,t,f,t]),(.s [f,t,t,t]),(.s [f,t,f,f,f])],none⟩]
  [(0,4),(0,8),(4,8)] [[],[],[],[1,2],[1,2,3],[],[],[5,6],[5,6,7],(r 9)]) : CCode)) false true
def c31_o9 : CCode:=(fun (f t : Bool) => (.trim [[t],[f,t],[t,t],[f,f,f],[t,f,f],[f,t,f]] (.ops [
  ⟨some [f,f,t,f,f],.move (.s [t,f,f]),none⟩,
  ⟨some [t,f,t,f,f],.move (.s [f,t,f]),none⟩,
  ⟨some [f,t,t,f,f],.buildSlice none 1 1 [.int .i64 0] [(0,1,(.s [t,f,t,f,f]))],none⟩,
  ⟨some [t,t,t,f,f],.append none 1 8 (.s [f,f,t,f,f]) (.s [f,t,t,f,f]),none⟩,
  ⟨some [t,f,f],.move (.s [t,t,t,f,f]),none⟩]) : CCode)) false true
def c31_o10 : CCode:=(fun (f t : Bool) => (.trim [[t],[f,t],[t,t],[f,f,f],[t,f,f],[f,t,f]] (.ops [
  ⟨some [f,f,f,t],.move (.s [f,t,f]),none⟩,
  ⟨some [t,f,f,t],.bin .add (.s [f,f,f,t]) (.c (.int .i64 1)),none⟩,
  ⟨some [f,t,f],.move (.s [t,f,f,t]),none⟩]) : CCode)) false true
def c31_b0 : CCode:=(fun (f t : Bool) => ((.seq (.seq c31_o7
 (.cond (.s [t,t,t,f]) .skip (.exit 2)))
 (.seq (.block 3 (.seq c31_o8
 (.cond (.s [t,t,f,f,f]) c31_o9 .skip)))
 c31_o10)) : CCode)) false true
def c31_l0 : CCode:=(fun (f t : Bool) => (.loop [[t],[f,t],[t,t],[f,f,f],[t,f,f],[f,t,f]] c31_b0 : CCode)) false true
def c31_o11 : CCode:=(fun (f t : Bool) => (.trim [[t],[f,t],[t,t],[f,f,f],[t,f,f]] (.ops [
  ⟨some [f,f,f,t,f],.move (.s [t,t]),none⟩,
  ⟨some [t,f,f,t,f],.move (.s [t,f,f]),none⟩,
  ⟨some [f,t,f,t,f],.buildSlice none 1 1 [.nils] [(0,1,(.s [t,f,f,t,f]))],none⟩,
  ⟨some [t,t,f,t,f],.append none 1 24 (.s [f,f,f,t,f]) (.s [f,t,f,t,f]),none⟩,
  ⟨some [t,t],.move (.s [t,t,f,t,f]),none⟩]) : CCode)) false true
def c31_o12 : CCode:=(fun (f t : Bool) => (.trim [[t],[f,t],[t,t],[f,f,f]] (.ops [
  ⟨some [f,t,f,f],.move (.s [f,f,f]),none⟩,
  ⟨some [t,t,f,f],.bin .add (.s [f,t,f,f]) (.c (.int .i64 1)),none⟩,
  ⟨some [f,f,f],.move (.s [t,t,f,f]),none⟩]) : CCode)) false true
def c31_b1 : CCode:=(fun (f t : Bool) => ((.seq (.seq c31_o4
 (.cond (.s [t,f,f,f]) .skip (.exit 0)))
 (.seq (.block 1 (.seq c31_o5
 (.seq (.seq c31_o6
 (.block 2 c31_l0))
 c31_o11)))
 c31_o12)) : CCode)) false true
def c31_l1 : CCode:=(fun (f t : Bool) => (.loop [[t],[f,t],[t,t],[f,f,f]] c31_b1 : CCode)) false true
def c31_o13 : CCode:=(fun (f t : Bool) => (.trim [[t,t]] (.ops [
  ⟨some [f,f,t,t,f],.move (.s [t,t]),none⟩,
  ⟨some [t,f],.move (.s [f,f,t,t,f]),none⟩]) : CCode)) false true
def c31 : CFunc:=(fun (f t : Bool) => ({ params:=[[],[f]],results:=[.slot [t,f]],shared:=f,body:=(.seq c31_o0
 (.seq c31_o1
 (.seq c31_o2
 (.seq (.seq c31_o3
 (.block 0 c31_l1))
 (.seq c31_o13
 .ret))))) } : CFunc)) false true
def c35_o0 : CCode:=(fun (f t : Bool) => (.trim [[],[f]] (.ops [
  ⟨some [t],.box none (.s []),none⟩,
  ⟨some [t,f],.move (.c (.int .i64 0)),none⟩,
  ⟨some [f,t],.move (.c (.int .i64 0)),none⟩]) : CCode)) false true
def c35_o1 : CCode:=(fun (f t : Bool) => (.trim [[f],[t]] (.ops [
  ⟨some [t,f,t],.load (some 3) (.s [t]),none⟩,
  ⟨some [f,t,t],.call f (.c (.func 57 [])) [(.s [t,f,t])],none⟩,
  ⟨some [t,t,t],.un .not (.s [f,t,t]),none⟩,
  ⟨some [f,f,f,f],.move (.s [t,t,t]),none⟩,
  ⟨some [t,f,f,f],.move (.s [f]),some ([f,f,f,f],f)⟩,
  ⟨some [f,t,f,f],.call f (.c (.func 60 [])) [(.s [t,f,f,f]),(.c (.int .i64 1)),(.c (.int .i64 5))],some ([f,f,f,f],f)⟩,
  ⟨some [t,t,f,f],.un .not (.s [f,t,f,f]),some ([f,f,f,f],f)⟩,
  ⟨some [f,f,t,f],.pick (.s [f,f,f,f]) (.c (.bool t)) (.s [t,t,f,f]),none⟩]) : CCode)) false true
def c35_o2 : CCode:=(fun (f t : Bool) => (.trim [] (.ops [
  ⟨some [t,f],.move (.c (.int .i64 0)),none⟩,
  ⟨some [f,t],.move (.c (.int .i64 2)),none⟩]) : CCode)) false true
def c35_o3 : CCode:=(fun (f t : Bool) => (.trim [[f],[t]] (.ops [
  ⟨some [t,f,t,f],.load (some 3) (.s [t]),none⟩,
  ⟨some [f,t,t,f],.move (.s [f]),none⟩,
  ⟨some [t,t,t,f],.call f (.c (.func 61 [])) [(.s [t,f,t,f]),(.s [f,t,t,f])],none⟩,
  ⟨some [t,t],.alloc none [.nilp],none⟩,
  ⟨none,.store 1 (.s [t,t]) (.s [t,t,t,f]),none⟩]) : CCode)) false true
def c35_o4 : CCode:=(fun (f t : Bool) => (.trim [[t,t]] (.ops [
  ⟨some [f,f,f,t],.makeMap none,none⟩,
  ⟨some [f,f,f],.alloc none [.nilm],none⟩,
  ⟨none,.store 1 (.s [f,f,f]) (.s [f,f,f,t]),none⟩]) : CCode)) false true
def c35_o5 : CCode:=(fun (f t : Bool) => (.trim [[t,t],[f,f,f]] (.ops [
  ⟨some [t,f,f],.alloc none [.nilf],none⟩]) : CCode)) false true
def c35_o6 : CCode:=(fun (f t : Bool) => (.trim [[t,t],[f,f,f],[t,f,f]] (.ops [
  ⟨some [t,f,f,t],.makeFunc 73 [(.s [f,f,f]),(.s [t,t]),(.s [t,f,f])],none⟩,
  ⟨none,.store 1 (.s [t,f,f]) (.s [t,f,f,t]),none⟩]) : CCode)) false true
def c35_o7 : CCode:=(fun (f t : Bool) => (.trim [[t,t],[t,f,f]] (.ops [
  ⟨some [f,t,f],.move (.c (.int .i64 0)),none⟩]) : CCode)) false true
def c35_o8 : CCode:=(fun (f t : Bool) => (.trim [[t,t],[t,f,f],[f,t,f]] (.ops [
  ⟨some [f,t,f,t],.load none (.s [t,t]),none⟩,
  ⟨some [t,t,f,t],.nilCheck (.s [f,t,f,t]),none⟩,
  ⟨some [f,f,t,t],.fieldAddr 0 (.s [t,t,f,t]),none⟩,
  ⟨some [t,f,t,t],.load none (.s [f,f,t,t]),none⟩,
  ⟨some [f,t,t,t],.len 1 (.s [t,f,t,t]),none⟩,
  ⟨some [t,t,t,t],.move (.c (.int .i64 0)),none⟩]) : CCode)) false true
def c35_o9 : CCode:=(fun (f t : Bool) => (.trim [[t,f,f],[f,t,f],[f,t,t,t],[t,t,t,t]] (.ops [
  ⟨some [f,f,f,f,f],.bin .lss (.s [t,t,t,t]) (.s [f,t,t,t]),none⟩]) : CCode)) false true
def c35_o10 : CCode:=(fun (f t : Bool) => (.trim [[t,f,f],[f,t,f],[f,t,t,t],[t,t,t,t]] (.ops [
  ⟨some [t,f,f,f,f],.move (.s [t,t,t,t]),none⟩,
  ⟨some [t,t,f],.move (.s [t,f,f,f,f]),none⟩]) : CCode)) false true
def c35_o11 : CCode:=(fun (f t : Bool) => (.trim [[t,f,f],[f,t,f],[t,t,f],[f,t,t,t],[t,t,t,t]] (.ops [
  ⟨some [f,t,f,f,f],.load none (.s [t,f,f]),none⟩,
  ⟨some [t,t,f,f,f],.move (.s [t,t,f]),none⟩,
  ⟨some [f,f,t,f,f],.call f (.s [f,t,f,f,f]) [(.s [t,t,f,f,f])],none⟩,
  ⟨some [f,f,t],.move (.s [f,f,t,f,f]),none⟩]) : CCode)) false true
def c35_o12 : CCode:=(fun (f t : Bool) => (.trim [[t,f,f],[f,t,f],[f,f,t],[f,t,t,t],[t,t,t,t]] (.ops [
  ⟨some [t,f,t,f,f],.move (.s [f,f,t]),none⟩,
  ⟨some [f,t,t,f,f],.bin .lss (.s [t,f,t,f,f]) (.c (.int .i64 0)),none⟩]) : CCode)) false true
def c35_o13 : CCode:=(fun (f t : Bool) => (.trim [] (.ops [
  ⟨some [t,f],.move (.c (.int .i64 (-1))),none⟩,
  ⟨some [f,t],.move (.c (.int .i64 0)),none⟩]) : CCode)) false true
def c35_o14 : CCode:=(fun (f t : Bool) => (.trim [[t,f,f],[f,t,f],[f,f,t],[f,t,t,t],[t,t,t,t]] (.ops [
  ⟨some [t,t,t,f,f],.move (.s [f,t,f]),none⟩,
  ⟨some [f,f,f,t,f],.move (.s [f,f,t]),none⟩,
  ⟨some [t,f,f,t,f],.minmax t (.s [t,t,t,f,f]) (.s [f,f,f,t,f]),none⟩,
  ⟨some [f,t,f],.move (.s [t,f,f,t,f]),none⟩]) : CCode)) false true
def c35_o15 : CCode:=(fun (f t : Bool) => (.trim [[t,f,f],[f,t,f],[f,t,t,t],[t,t,t,t]] (.ops [
  ⟨some [f,t,f,t,f],.bin .add (.s [t,t,t,t]) (.c (.int .i64 1)),none⟩,
  ⟨some [t,t,t,t],.move (.s [f,t,f,t,f]),none⟩]) : CCode)) false true
def c35_b0 : CCode:=(fun (f t : Bool) => ((.seq c35_o9
 (.seq (.cond (.s [f,f,f,f,f]) .skip (.exit 0))
 (.seq (.block 1 (.seq c35_o10
 (.seq c35_o11
 (.seq (.seq c35_o12
 (.cond (.s [f,t,t,f,f]) (.seq c35_o13
 .ret) .skip))
 c35_o14))))
 c35_o15))) : CCode)) false true
def c35_l0 : CCode:=(fun (f t : Bool) => (.loop [[t,f,f],[f,t,f],[f,t,t,t],[t,t,t,t]] c35_b0 : CCode)) false true
def c35_o16 : CCode:=(fun (f t : Bool) => (.trim [[f,t,f]] (.ops [
  ⟨some [t,t,f,t,f],.move (.s [f,t,f]),none⟩,
  ⟨some [t,f],.move (.s [t,t,f,t,f]),none⟩,
  ⟨some [f,t],.move (.c (.int .i64 0)),none⟩]) : CCode)) false true
def c35 : CFunc:=(fun (f t : Bool) => ({ params:=[[],[f]],results:=[.slot [t,f],.slot [f,t]],shared:=f,body:=(.seq c35_o0
 (.seq (.seq c35_o1
 (.cond (.s [f,f,t,f]) (.seq c35_o2
 .ret) .skip))
 (.seq c35_o3
 (.seq c35_o4
 (.seq c35_o5
 (.seq c35_o6
 (.seq c35_o7
 (.seq (.seq c35_o8
 (.block 0 c35_l0))
 (.seq c35_o16
 .ret))))))))) } : CFunc)) false true
def c50_o0 : CCode:=(fun (f t : Bool) => (.trim [[]] (.ops [
  ⟨some [t],.move (.c (.nils)),none⟩]) : CCode)) false true
def c50_o1 : CCode:=(fun (f t : Bool) => (.trim [[]] (.ops [
  ⟨some [f,f],.move (.c (.nils)),none⟩]) : CCode)) false true
def c50_o2 : CCode:=(fun (f t : Bool) => (.trim [[],[f,f]] (.ops [
  ⟨some [t,f],.move (.c (.int .i64 0)),none⟩]) : CCode)) false true
def c50_o3 : CCode:=(fun (f t : Bool) => (.trim [[],[f,f],[t,f]] (.ops [
  ⟨some [f,t],.move (.s [t,f]),none⟩,
  ⟨some [t,t],.move (.s []),none⟩,
  ⟨some [f,f,f],.len 1 (.s [t,t]),none⟩,
  ⟨some [t,f,f],.bin .lss (.s [f,t]) (.s [f,f,f]),none⟩,
  ⟨some [f,t,f],.move (.s [t,f,f]),none⟩,
  ⟨some [t,t,f],.move (.s [t,f]),some ([f,t,f],t)⟩,
  ⟨some [f,f,t],.bin .leq (.s [t,t,f]) (.c (.int .i64 40)),some ([f,t,f],t)⟩,
  ⟨some [t,f,t],.pick (.s [f,t,f]) (.s [f,f,t]) (.c (.bool f)),none⟩]) : CCode)) false true
def c50_o4 : CCode:=(fun (f t : Bool) => (.trim [[],[f,f],[t,f]] (.ops [
  ⟨some [f,f,f,f],.move (.s [f,f]),none⟩,
  ⟨some [t,f,f,f],.move (.s []),none⟩,
  ⟨some [f,t,f,f],.move (.s [t,f]),none⟩,
  ⟨some [t,t,f,f],.idxSl 1 (.s [t,f,f,f]) (.s [f,t,f,f]),none⟩,
  ⟨some [f,f,t,f],.load none (.s [t,t,f,f]),none⟩,
  ⟨some [t,f,t,f],.call f (.c (.func 66 [])) [(.s [f,f,t,f])],none⟩,
  ⟨some [f,t,t,f],.buildSlice none 1 1 [.nils] [(0,1,(.s [t,f,t,f]))],none⟩,
  ⟨some [t,t,t,f],.append none 1 24 (.s [f,f,f,f]) (.s [f,t,t,f]),none⟩,
  ⟨some [f,f],.move (.s [t,t,t,f]),none⟩]) : CCode)) false true
def c50_o5 : CCode:=(fun (f t : Bool) => (.trim [[],[f,f],[t,f]] (.ops [
  ⟨some [f,t,t],.move (.s [t,f]),none⟩,
  ⟨some [t,t,t],.bin .add (.s [f,t,t]) (.c (.int .i64 1)),none⟩,
  ⟨some [t,f],.move (.s [t,t,t]),none⟩]) : CCode)) false true
def c50_b0 : CCode:=(fun (f t : Bool) => ((.seq (.seq c50_o3
 (.cond (.s [t,f,t]) .skip (.exit 0)))
 (.seq (.block 1 c50_o4)
 c50_o5)) : CCode)) false true
def c50_l0 : CCode:=(fun (f t : Bool) => (.loop [[],[f,f],[t,f]] c50_b0 : CCode)) false true
def c50_o6 : CCode:=(fun (f t : Bool) => (.trim [[f,f]] (.ops [
  ⟨some [f,f,f,t],.move (.s [f,f]),none⟩,
  ⟨some [t],.move (.s [f,f,f,t]),none⟩]) : CCode)) false true
def c50 : CFunc:=(fun (f t : Bool) => ({ params:=[[]],results:=[.slot [t]],shared:=f,body:=(.seq c50_o0
 (.seq c50_o1
 (.seq (.seq c50_o2
 (.block 0 c50_l0))
 (.seq c50_o6
 .ret)))) } : CFunc)) false true
def c51_o0 : CCode:=(fun (f t : Bool) => (.trim [[],[f]] (.ops [
  ⟨some [t],.box none (.s []),none⟩,
  ⟨some [t,f],.move (.c (.nils)),none⟩,
  ⟨some [f,t],.move (.c (.int .i64 0)),none⟩,
  ⟨some [t,t],.move (.c (.int .i64 0)),none⟩]) : CCode)) false true
def c51_o1 : CCode:=(fun (f t : Bool) => (.trim [[f],[t]] (.ops [
  ⟨some [t,t,f,t],.load (some 3) (.s [t]),none⟩,
  ⟨some [f,f,t,t],.call f (.c (.func 57 [])) [(.s [t,t,f,t])],none⟩,
  ⟨some [t,f,t,t],.un .not (.s [f,f,t,t]),none⟩,
  ⟨some [f,t,t,t],.move (.s [t,f,t,t]),none⟩,
  ⟨some [t,t,t,t],.load (some 3) (.s [t]),some ([f,t,t,t],f)⟩,
  ⟨some [f,f,f,f,f],.move (.s [f]),some ([f,t,t,t],f)⟩,
  ⟨some [t,f,f,f,f],.call f (.c (.func 83 [])) [(.s [t,t,t,t]),(.s [f,f,f,f,f])],some ([f,t,t,t],f)⟩,
  ⟨some [f,t,f,f,f],.un .not (.s [t,f,f,f,f]),some ([f,t,t,t],f)⟩,
  ⟨some [t,t,f,f,f],.pick (.s [f,t,t,t]) (.c (.bool t)) (.s [f,t,f,f,f]),none⟩]) : CCode)) false true
def c51_o2 : CCode:=(fun (f t : Bool) => (.trim [] (.ops [
  ⟨some [t,f],.move (.c (.nils)),none⟩,
  ⟨some [f,t],.move (.c (.int .i64 0)),none⟩,
  ⟨some [t,t],.move (.c (.int .i64 2)),none⟩]) : CCode)) false true
def c51_o3 : CCode:=(fun (f t : Bool) => (.trim [[f],[t]] (.draw 0 [
  ⟨some [f,f,t,f,f],.load (some 3) (.s [t]),none⟩,
  ⟨some [t,f,t,f,f],.move (.s [f]),none⟩,
  ⟨some [f,t,t,f,f],.idxSl 1 (.s [t,f,t,f,f]) (.c (.int .i64 0)),none⟩,
  ⟨some [t,t,t,f,f],.load none (.s [f,t,t,f,f]),none⟩,
  ⟨some [f,f,f,t,f],.len 1 (.s [t,t,t,f,f]),none⟩,
  ⟨some [t,f,f,t,f],.call f (.c (.func 61 [])) [(.s [f,f,t,f,f]),(.s [f,f,f,t,f])],none⟩,
  ⟨some [f,f,f],.move (.s [t,f,f,t,f]),none⟩]
  [(0,3),(0,4)] [[],[],[1],[1,2],[1,2,3],(r 5),(r 6)]) : CCode)) false true
def c51_o4 : CCode:=(fun (f t : Bool) => (.trim [[f],[f,f,f]] (.ops [
  ⟨some [f,t,f,t,f],.makeMap none,none⟩,
  ⟨some [t,f,f],.move (.s [f,t,f,t,f]),none⟩]) : CCode)) false true
def c51_o5 : CCode:=(fun (f t : Bool) => (.trim [[f],[f,f,f],[t,f,f]] (.ops [
  ⟨some [t,t,f,t,f],.move (.s [f]),none⟩,
  ⟨some [f,f,t,t,f],.len 1 (.s [t,t,f,t,f]),none⟩,
  ⟨some [t,f,t,t,f],.bin .sub (.s [f,f,t,t,f]) (.c (.int .i64 1)),none⟩,
  ⟨some [f,t,f],.move (.s [t,f,t,t,f]),none⟩]) : CCode)) false true
def c51_o6 : CCode:=(fun (f t : Bool) => (.trim [[f],[f,f,f],[t,f,f],[f,t,f]] (.ops [
  ⟨some [f,t,t,t,f],.move (.s [f,t,f]),none⟩,
  ⟨some [t,t,t,t,f],.bin .geq (.s [f,t,t,t,f]) (.c (.int .i64 0)),none⟩]) : CCode)) false true
def c51_o7 : CCode:=(fun (f t : Bool) => (.trim [[f],[f,f,f],[t,f,f],[f,t,f]] (.ops [
  ⟨some [f,t,f,f,t],.move (.s [f]),none⟩,
  ⟨some [t,t,f,f,t],.len 1 (.s [f,t,f,f,t]),none⟩,
  ⟨some [f,f,t,f,t],.bin .sub (.s [t,t,f,f,t]) (.c (.int .i64 1)),none⟩,
  ⟨some [t,f,t,f,t],.move (.s [f,t,f]),none⟩,
  ⟨some [f,t,t,f,t],.bin .sub (.s [f,f,t,f,t]) (.s [t,f,t,f,t]),none⟩,
  ⟨some [t,t,f],.move (.s [f,t,t,f,t]),none⟩]) : CCode)) false true
def c51_o8 : CCode:=(fun (f t : Bool) => (.trim [[f],[f,f,f],[t,f,f],[f,t,f],[t,t,f]] (.ops [
  ⟨some [t,t,t,f,t],.move (.s [f,f,f]),none⟩,
  ⟨some [f,f,f,t,t],.nilCheck (.s [t,t,t,f,t]),none⟩,
  ⟨some [t,f,f,t,t],.fieldAddr 0 (.s [f,f,f,t,t]),none⟩,
  ⟨some [f,t,f,t,t],.load none (.s [t,f,f,t,t]),none⟩,
  ⟨some [t,t,f,t,t],.len 1 (.s [f,t,f,t,t]),none⟩,
  ⟨some [f,f,t,t,t],.move (.c (.int .i64 0)),none⟩]) : CCode)) false true
def c51_o9 : CCode:=(fun (f t : Bool) => (.trim [[f],[f,f,f],[t,f,f],[f,t,f],[t,t,f],[f,t,f,t,t],[t,t,f,t,t],[f,f,t,t,t]] (.ops [
  ⟨some [t,f,t,t,t],.bin .lss (.s [f,f,t,t,t]) (.s [t,t,f,t,t]),none⟩]) : CCode)) false true
def c51_o10 : CCode:=(fun (f t : Bool) => (.trim [[f],[f,f,f],[t,f,f],[f,t,f],[t,t,f],[f,t,f,t,t],[t,t,f,t,t],[f,f,t,t,t]] (.ops [
  ⟨some [f,t,t,t,t],.move (.s [f,f,t,t,t]),none⟩,
  ⟨some [t,t,t,t,t],.idxSl 1 (.s [f,t,f,t,t]) (.s [f,f,t,t,t]),none⟩,
  ⟨some [f,f,f,f,f,f],.load none (.s [t,t,t,t,t]),none⟩,
  ⟨some [f,f,t],.move (.s [f,t,t,t,t]),none⟩,
  ⟨some [t,f,t],.move (.s [f,f,f,f,f,f]),none⟩]) : CCode)) false true
def c51_o11 : CCode:=(fun (f t : Bool) => (.trim [[f],[f,f,f],[t,f,f],[f,t,f],[t,t,f],[f,f,t],[t,f,t],[f,t,f,t,t],[t,t,f,t,t],[f,f,t,t,t]] (.ops [
  ⟨some [f,t,f,f,f,f],.move (.s [f,f,f]),none⟩,
  ⟨some [t,t,f,f,f,f],.move (.s [t,f,f]),none⟩,
  ⟨some [f,f,t,f,f,f],.move (.s [f,f,t]),none⟩,
  ⟨some [t,f,t,f,f,f],.move (.s [t,t,f]),none⟩,
  ⟨some [f,t,t,f,f,f],.call f (.c (.func 84 [])) [(.s [f,t,f,f,f,f]),(.s [t,t,f,f,f,f]),(.s [f,f,t,f,f,f]),(.s [t,f,t,f,f,f])],none⟩,
  ⟨some [t,f,f,f,f,f],.move (.s [f,t,t,f,f,f]),none⟩,
  ⟨some [t,t,t,f,f,f],.extract 0 (.s [t,f,f,f,f,f]),none⟩,
  ⟨some [f,f,f,t,f,f],.extract 1 (.s [t,f,f,f,f,f]),none⟩,
  ⟨some [f,t,t],.move (.s [t,t,t,f,f,f]),none⟩,
  ⟨some [t,t,t],.move (.s [f,f,f,t,f,f]),none⟩]) : CCode)) false true
def c51_o12 : CCode:=(fun (f t : Bool) => (.trim [[f],[f,f,f],[t,f,f],[f,t,f],[t,t,f],[f,f,t],[t,f,t],[f,t,t],[t,t,t],[f,t,f,t,t],[t,t,f,t,t],[f,f,t,t,t]] (.ops [
  ⟨some [t,f,f,t,f,f],.move (.s [t,t,t]),none⟩]) : CCode)) false true
def c51_o13 : CCode:=(fun (f t : Bool) => (.trim [[f],[f,f,f],[t,f,f],[f,t,f],[t,t,f],[f,f,t],[t,f,t],[f,t,t],[f,t,f,t,t],[t,t,f,t,t],[f,f,t,t,t]] (.ops [
  ⟨some [f,t,f,t,f,f],.move (.s [t,f,f]),none⟩,
  ⟨some [t,t,f,t,f,f],.move (.s [f,f,t]),none⟩,
  ⟨some [f,f,t,t,f,f],.move (.s [t,t,f]),none⟩,
  ⟨some [t,f,t,t,f,f],.build [.int .i64 0,.int .i64 0] [(0,1,(.s [t,t,f,t,f,f])),(1,1,(.s [f,f,t,t,f,f]))],none⟩,
  ⟨some [f,t,t,t,f,f],.move (.s [f,t,t]),none⟩,
  ⟨some [t,t,t,t,f,f],.move (.s [f]),none⟩,
  ⟨some [f,f,f,f,t,f],.move (.s [f,t,f]),none⟩,
  ⟨some [t,f,f,f,t,f],.idxSl 1 (.s [t,t,t,t,f,f]) (.s [f,f,f,f,t,f]),none⟩,
  ⟨some [f,t,f,f,t,f],.load none (.s [t,f,f,f,t,f]),none⟩,
  ⟨some [t,t,f,f,t,f],.move (.s [t,f,t]),none⟩,
  ⟨some [f,f,t,f,t,f],.call f (.c (.func 85 [])) [(.s [f,t,f,f,t,f]),(.s [t,t,f,f,t,f])],none⟩,
  ⟨some [t,f,t,f,t,f],.bin .add (.s [f,t,t,t,f,f]) (.s [f,f,t,f,t,f]),none⟩,
  ⟨none,.mapUpdateA [.i .i64,.i .i64] (.s [f,t,f,t,f,f]) (.s [t,f,t,t,f,f]) (.s [t,f,t,f,t,f]),none⟩]) : CCode)) false true
def c51_o14 : CCode:=(fun (f t : Bool) => (.trim [[f],[f,f,f],[t,f,f],[f,t,f],[t,t,f],[f,t,f,t,t],[t,t,f,t,t],[f,f,t,t,t]] (.ops [
  ⟨some [f,t,t,f,t,f],.bin .add (.s [f,f,t,t,t]) (.c (.int .i64 1)),none⟩,
  ⟨some [f,f,t,t,t],.move (.s [f,t,t,f,t,f]),none⟩]) : CCode)) false true
def c51_b0 : CCode:=(fun (f t : Bool) => ((.seq c51_o9
 (.seq (.cond (.s [t,f,t,t,t]) .skip (.exit 2))
 (.seq (.block 3 (.seq c51_o10
 (.seq c51_o11
 (.seq c51_o12
 (.cond (.s [t,f,f,t,f,f]) c51_o13 .skip)))))
 c51_o14))) : CCode)) false true
def c51_l0 : CCode:=(fun (f t : Bool) => (.loop [[f],[f,f,f],[t,f,f],[f,t,f],[t,t,f],[f,t,f,t,t],[t,t,f,t,t],[f,f,t,t,t]] c51_b0 : CCode)) false true
def c51_o15 : CCode:=(fun (f t : Bool) => (.trim [[f],[f,f,f],[t,f,f],[f,t,f]] (.ops [
  ⟨some [f,f,f,f,t],.move (.s [f,t,f]),none⟩,
  ⟨some [t,f,f,f,t],.bin .sub (.s [f,f,f,f,t]) (.c (.int .i64 1)),none⟩,
  ⟨some [f,t,f],.move (.s [t,f,f,f,t]),none⟩]) : CCode)) false true
def c51_b1 : CCode:=(fun (f t : Bool) => ((.seq (.seq c51_o6
 (.cond (.s [t,t,t,t,f]) .skip (.exit 0)))
 (.seq (.block 1 (.seq c51_o7
 (.seq c51_o8
 (.block 2 c51_l0))))
 c51_o15)) : CCode)) false true
def c51_l1 : CCode:=(fun (f t : Bool) => (.loop [[f],[f,f,f],[t,f,f],[f,t,f]] c51_b1 : CCode)) false true
def c51_o16 : CCode:=(fun (f t : Bool) => (.trim [[f],[f,f,f],[t,f,f]] (.ops [
  ⟨some [f,f,f,f],.move (.c (.nils)),none⟩]) : CCode)) false true
def c51_o17 : CCode:=(fun (f t : Bool) => (.trim [[f],[f,f,f],[t,f,f],[f,f,f,f]] (.ops [
  ⟨some [t,t,t,f,t,f],.move (.s [f,f,f]),none⟩,
  ⟨some [f,f,f,t,t,f],.nilCheck (.s [t,t,t,f,t,f]),none⟩,
  ⟨some [t,f,f,t,t,f],.fieldAddr 0 (.s [f,f,f,t,t,f]),none⟩,
  ⟨some [f,t,f,t,t,f],.load none (.s [t,f,f,t,t,f]),none⟩,
  ⟨some [t,t,f,t,t,f],.len 1 (.s [f,t,f,t,t,f]),none⟩,
  ⟨some [f,f,t,t,t,f],.makeSlice none 1 8 [.int .i64 0] (.s [t,t,f,t,t,f]),none⟩,
  ⟨some [t,f,f,f],.move (.s [f,f,t,t,t,f]),none⟩]) : CCode)) false true
def c51_o18 : CCode:=(fun (f t : Bool) => (.trim [[f],[f,f,f],[t,f,f],[f,f,f,f],[t,f,f,f]] (.ops [
  ⟨some [t,f,t,t,t,f],.move (.s [t,f,f,f]),none⟩,
  ⟨some [f,t,t,t,t,f],.len 1 (.s [t,f,t,t,t,f]),none⟩,
  ⟨some [t,t,t,t,t,f],.move (.c (.int .i64 0)),none⟩]) : CCode)) false true
def c51_o19 : CCode:=(fun (f t : Bool) => (.trim [[f],[f,f,f],[t,f,f],[f,f,f,f],[t,f,f,f],[f,t,t,t,t,f],[t,t,t,t,t,f]] (.ops [
  ⟨some [f,f,f,f,f,t],.bin .lss (.s [t,t,t,t,t,f]) (.s [f,t,t,t,t,f]),none⟩]) : CCode)) false true
def c51_o20 : CCode:=(fun (f t : Bool) => (.trim [[f],[f,f,f],[t,f,f],[f,f,f,f],[t,f,f,f],[f,t,t,t,t,f],[t,t,t,t,t,f]] (.ops [
  ⟨some [t,f,f,f,f,t],.move (.s [t,t,t,t,t,f]),none⟩,
  ⟨some [f,t,f,f],.move (.s [t,f,f,f,f,t]),none⟩]) : CCode)) false true
def c51_o21 : CCode:=(fun (f t : Bool) => (.trim [[f],[f,f,f],[t,f,f],[f,f,f,f],[t,f,f,f],[f,t,f,f],[f,t,t,t,t,f],[t,t,t,t,t,f]] (.ops [
  ⟨some [f,t,f,f,f,t],.move (.s [t,f,f,f]),none⟩,
  ⟨some [t,t,f,f,f,t],.move (.s [f,t,f,f]),none⟩,
  ⟨some [f,f,t,f,f,t],.move (.s [f,t,f,f]),none⟩,
  ⟨some [t,f,t,f,f,t],.idxSl 1 (.s [f,t,f,f,f,t]) (.s [t,t,f,f,f,t]),none⟩,
  ⟨none,.store 1 (.s [t,f,t,f,f,t]) (.s [f,f,t,f,f,t]),none⟩]) : CCode)) false true
def c51_o22 : CCode:=(fun (f t : Bool) => (.trim [[f],[f,f,f],[t,f,f],[f,f,f,f],[t,f,f,f],[f,t,t,t,t,f],[t,t,t,t,t,f]] (.ops [
  ⟨some [f,t,t,f,f,t],.bin .add (.s [t,t,t,t,t,f]) (.c (.int .i64 1)),none⟩,
  ⟨some [t,t,t,t,t,f],.move (.s [f,t,t,f,f,t]),none⟩]) : CCode)) false true
def c51_b2 : CCode:=(fun (f t : Bool) => ((.seq c51_o19
 (.seq (.cond (.s [f,f,f,f,f,t]) .skip (.exit 4))
 (.seq (.block 5 (.seq c51_o20
 c51_o21))
 c51_o22))) : CCode)) false true
def c51_l2 : CCode:=(fun (f t : Bool) => (.loop [[f],[f,f,f],[t,f,f],[f,f,f,f],[t,f,f,f],[f,t,t,t,t,f],[t,t,t,t,t,f]] c51_b2 : CCode)) false true
def c51_o23 : CCode:=(fun (f t : Bool) => (.trim [[f],[f,f,f],[t,f,f],[f,f,f,f],[t,f,f,f]] (.ops [
  ⟨some [t,t,f,f],.move (.c (.int .i64 0)),none⟩]) : CCode)) false true
def c51_o24 : CCode:=(fun (f t : Bool) => (.trim [[f],[f,f,f],[t,f,f],[f,f,f,f],[t,f,f,f],[t,t,f,f]] (.ops [
  ⟨some [t,t,t,f,f,t],.move (.s [f]),none⟩,
  ⟨some [f,f,f,t,f,t],.len 1 (.s [t,t,t,f,f,t]),none⟩,
  ⟨some [t,f,f,t,f,t],.move (.c (.int .i64 0)),none⟩]) : CCode)) false true
def c51_o25 : CCode:=(fun (f t : Bool) => (.trim [[f],[f,f,f],[t,f,f],[f,f,f,f],[t,f,f,f],[t,t,f,f],[f,f,f,t,f,t],[t,f,f,t,f,t]] (.ops [
  ⟨some [f,t,f,t,f,t],.bin .lss (.s [t,f,f,t,f,t]) (.s [f,f,f,t,f,t]),none⟩]) : CCode)) false true
def c51_o26 : CCode:=(fun (f t : Bool) => (.trim [[f],[f,f,f],[t,f,f],[f,f,f,f],[t,f,f,f],[t,t,f,f],[f,f,f,t,f,t],[t,f,f,t,f,t]] (.ops [
  ⟨some [t,t,f,t,f,t],.move (.s [t,f,f,t,f,t]),none⟩,
  ⟨some [f,f,t,f],.move (.s [t,t,f,t,f,t]),none⟩]) : CCode)) false true
def c51_o27 : CCode:=(fun (f t : Bool) => (.trim [[f],[f,f,f],[t,f,f],[f,f,f,f],[t,f,f,f],[t,t,f,f],[f,f,t,f],[f,f,f,t,f,t],[t,f,f,t,f,t]] (.ops [
  ⟨some [f,f,t,t,f,t],.build [.int .i64 0,.int .i64 0] [(0,1,(.c (.int .i64 (-1)))),(1,1,(.c (.int .i64 0)))],none⟩,
  ⟨some [t,f,t,f],.alloc none [.int .i64 0,.int .i64 0],none⟩,
  ⟨none,.store 2 (.s [t,f,t,f]) (.s [f,f,t,t,f,t]),none⟩]) : CCode)) false true
def c51_o28 : CCode:=(fun (f t : Bool) => (.trim [[f],[f,f,f],[t,f,f],[f,f,f,f],[t,f,f,f],[t,t,f,f],[f,f,t,f],[t,f,t,f],[f,f,f,t,f,t],[t,f,f,t,f,t]] (.ops [
  ⟨some [t,f,t,t,f,t],.move (.s [t,f,f,f]),none⟩,
  ⟨some [f,t,t,t,f,t],.len 1 (.s [t,f,t,t,f,t]),none⟩,
  ⟨some [t,t,t,t,f,t],.move (.c (.int .i64 0)),none⟩]) : CCode)) false true
def c51_o29 : CCode:=(fun (f t : Bool) => (.trim [[f],[f,f,f],[t,f,f],[f,f,f,f],[t,t,f,f],[f,f,t,f],[t,f,t,f],[f,f,f,t,f,t],[t,f,f,t,f,t],[t,f,t,t,f,t],[f,t,t,t,f,t],[t,t,t,t,f,t]] (.ops [
  ⟨some [f,f,f,f,t,t],.bin .lss (.s [t,t,t,t,f,t]) (.s [f,t,t,t,f,t]),none⟩]) : CCode)) false true
def c51_o30 : CCode:=(fun (f t : Bool) => (.trim [[f],[f,f,f],[t,f,f],[f,f,f,f],[t,t,f,f],[f,f,t,f],[t,f,t,f],[f,f,f,t,f,t],[t,f,f,t,f,t],[t,f,t,t,f,t],[f,t,t,t,f,t],[t,t,t,t,f,t]] (.ops [
  ⟨some [t,f,f,f,t,t],.idxSl 1 (.s [t,f,t,t,f,t]) (.s [t,t,t,t,f,t]),none⟩,
  ⟨some [f,t,f,f,t,t],.load none (.s [t,f,f,f,t,t]),none⟩,
  ⟨some [t,t,t,f],.move (.s [f,t,f,f,t,t]),none⟩]) : CCode)) false true
def c51_o31 : CCode:=(fun (f t : Bool) => (.trim [[f],[f,f,f],[t,f,f],[f,f,f,f],[t,t,f,f],[f,f,t,f],[t,f,t,f],[t,t,t,f],[f,f,f,t,f,t],[t,f,f,t,f,t],[t,f,t,t,f,t],[f,t,t,t,f,t],[t,t,t,t,f,t]] (.ops [
  ⟨some [t,t,f,f,t,t],.move (.s [t,t,t,f]),none⟩,
  ⟨some [f,f,t,f,t,t],.move (.s [f]),none⟩,
  ⟨some [t,f,t,f,t,t],.len 1 (.s [f,f,t,f,t,t]),none⟩,
  ⟨some [f,t,t,f,t,t],.bin .sub (.s [t,f,t,f,t,t]) (.c (.int .i64 1)),none⟩,
  ⟨some [t,t,t,f,t,t],.move (.s [f,f,t,f]),none⟩,
  ⟨some [f,f,f,t,t,t],.bin .sub (.s [f,t,t,f,t,t]) (.s [t,t,t,f,t,t]),none⟩,
  ⟨some [t,f,f,t,t,t],.build [.int .i64 0,.int .i64 0] [(0,1,(.s [t,t,f,f,t,t])),(1,1,(.s [f,f,f,t,t,t]))],none⟩,
  ⟨some [f,f,f,t],.alloc none [.int .i64 0,.int .i64 0],none⟩,
  ⟨none,.store 2 (.s [f,f,f,t]) (.s [t,f,f,t,t,t]),none⟩]) : CCode)) false true
def c51_o32 : CCode:=(fun (f t : Bool) => (.trim [[f],[f,f,f],[t,f,f],[f,f,f,f],[t,t,f,f],[f,f,t,f],[t,f,t,f],[f,f,f,t],[f,f,f,t,f,t],[t,f,f,t,f,t],[t,f,t,t,f,t],[f,t,t,t,f,t],[t,t,t,t,f,t]] (.ops [
  ⟨some [t,t,f,t,t,t],.move (.s [t,f,f]),none⟩,
  ⟨some [f,f,t,t,t,t],.load (some 2) (.s [f,f,f,t]),none⟩,
  ⟨some [t,f,t,t,t,t],.lookupA [.i .i64,.i .i64] (.int .i64 0) t (.s [t,t,f,t,t,t]) (.s [f,f,t,t,t,t]),none⟩,
  ⟨some [f,t,f,t,t,t],.move (.s [t,f,t,t,t,t]),none⟩,
  ⟨some [f,t,t,t,t,t],.extract 0 (.s [f,t,f,t,t,t]),none⟩,
  ⟨some [t,t,t,t,t,t],.extract 1 (.s [f,t,f,t,t,t]),none⟩,
  ⟨some [t,f,f,t],.move (.s [f,t,t,t,t,t]),none⟩,
  ⟨some [f,t,f,t],.move (.s [t,t,t,t,t,t]),none⟩]) : CCode)) false true
def c51_o33 : CCode:=(fun (f t : Bool) => (.trim [[f],[f,f,f],[t,f,f],[f,f,f,f],[t,t,f,f],[f,f,t,f],[t,f,t,f],[f,f,f,t],[t,f,f,t],[f,t,f,t],[f,f,f,t,f,t],[t,f,f,t,f,t],[t,f,t,t,f,t],[f,t,t,t,f,t],[t,t,t,t,f,t]] (.ops [
  ⟨some [f,f,f,f,f,f,f],.move (.s [f,t,f,t]),none⟩,
  ⟨some [t,f,f,f,f,f,f],.move (.s [f,f,f,f,f,f,f]),none⟩,
  ⟨some [f,t,f,f,f,f,f],.load (some 2) (.s [t,f,t,f]),some ([t,f,f,f,f,f,f],t)⟩,
  ⟨some [t,t,f,f,f,f,f],.build [.int .i64 0,.int .i64 0] [(0,1,(.c (.int .i64 (-1)))),(1,1,(.c (.int .i64 0)))],some ([t,f,f,f,f,f,f],t)⟩,
  ⟨some [f,f,t,f,f,f,f],.eqa [.i .i64,.i .i64] f (.s [f,t,f,f,f,f,f]) (.s [t,t,f,f,f,f,f]),some ([t,f,f,f,f,f,f],t)⟩,
  ⟨some [t,f,t,f,f,f,f],.move (.s [f,f,t,f,f,f,f]),some ([t,f,f,f,f,f,f],t)⟩,
  ⟨some [f,t,t,f,f,f,f],.move (.s [t,f,f,t]),some ([t,f,t,f,f,f,f],f)⟩,
  ⟨some [t,t,t,f,f,f,f],.move (.s [t,f,f]),some ([t,f,t,f,f,f,f],f)⟩,
  ⟨some [f,f,f,t,f,f,f],.load (some 2) (.s [t,f,t,f]),some ([t,f,t,f,f,f,f],f)⟩,
  ⟨some [t,f,f,t,f,f,f],.lookupA [.i .i64,.i .i64] (.int .i64 0) f (.s [t,t,t,f,f,f,f]) (.s [f,f,f,t,f,f,f]),some ([t,f,t,f,f,f,f],f)⟩,
  ⟨some [f,t,f,t,f,f,f],.bin .gtr (.s [f,t,t,f,f,f,f]) (.s [t,f,f,t,f,f,f]),some ([t,f,t,f,f,f,f],f)⟩,
  ⟨some [t,t,f,t,f,f,f],.pick (.s [t,f,t,f,f,f,f]) (.c (.bool t)) (.s [f,t,f,t,f,f,f]),some ([t,f,f,f,f,f,f],t)⟩,
  ⟨some [f,f,t,t,f,f,f],.pick (.s [t,f,f,f,f,f,f]) (.s [t,t,f,t,f,f,f]) (.c (.bool f)),none⟩]) : CCode)) false true
def c51_o34 : CCode:=(fun (f t : Bool) => (.trim [[f],[f,f,f],[t,f,f],[f,f,f,f],[t,t,f,f],[f,f,t,f],[t,f,t,f],[f,f,f,t],[f,f,f,t,f,t],[t,f,f,t,f,t],[t,f,t,t,f,t],[f,t,t,t,f,t],[t,t,t,t,f,t]] (.ops [
  ⟨some [t,f,t,t,f,f,f],.load (some 2) (.s [f,f,f,t]),none⟩,
  ⟨none,.store 2 (.s [t,f,t,f]) (.s [t,f,t,t,f,f,f]),none⟩]) : CCode)) false true
def c51_o35 : CCode:=(fun (f t : Bool) => (.trim [[f],[f,f,f],[t,f,f],[f,f,f,f],[t,t,f,f],[f,f,t,f],[t,f,t,f],[f,f,f,t,f,t],[t,f,f,t,f,t],[t,f,t,t,f,t],[f,t,t,t,f,t],[t,t,t,t,f,t]] (.ops [
  ⟨some [f,t,t,t,f,f,f],.bin .add (.s [t,t,t,t,f,t]) (.c (.int .i64 1)),none⟩,
  ⟨some [t,t,t,t,f,t],.move (.s [f,t,t,t,f,f,f]),none⟩]) : CCode)) false true
def c51_b3 : CCode:=(fun (f t : Bool) => ((.seq c51_o29
 (.seq (.cond (.s [f,f,f,f,t,t]) .skip (.exit 8))
 (.seq (.block 9 (.seq c51_o30
 (.seq c51_o31
 (.seq c51_o32
 (.seq c51_o33
 (.cond (.s [f,f,t,t,f,f,f]) c51_o34 .skip))))))
 c51_o35))) : CCode)) false true
def c51_l3 : CCode:=(fun (f t : Bool) => (.loop [[f],[f,f,f],[t,f,f],[f,f,f,f],[t,t,f,f],[f,f,t,f],[t,f,t,f],[f,f,f,t,f,t],[t,f,f,t,f,t],[t,f,t,t,f,t],[f,t,t,t,f,t],[t,t,t,t,f,t]] c51_b3 : CCode)) false true
def c51_o36 : CCode:=(fun (f t : Bool) => (.trim [[f],[f,f,f],[t,f,f],[f,f,f,f],[t,t,f,f],[f,f,t,f],[t,f,t,f],[f,f,f,t,f,t],[t,f,f,t,f,t]] (.ops [
  ⟨some [t,t,t,t,f,f,f],.load (some 2) (.s [t,f,t,f]),none⟩,
  ⟨some [f,f,f,f,t,f,f],.build [.int .i64 0,.int .i64 0] [(0,1,(.c (.int .i64 (-1)))),(1,1,(.c (.int .i64 0)))],none⟩,
  ⟨some [t,f,f,f,t,f,f],.eqa [.i .i64,.i .i64] f (.s [t,t,t,t,f,f,f]) (.s [f,f,f,f,t,f,f]),none⟩]) : CCode)) false true
def c51_o37 : CCode:=(fun (f t : Bool) => (.trim [] (.ops [
  ⟨some [t,f],.move (.c (.nils)),none⟩,
  ⟨some [f,t],.move (.c (.int .i64 0)),none⟩,
  ⟨some [t,t],.move (.c (.int .i64 6)),none⟩]) : CCode)) false true
def c51_o38 : CCode:=(fun (f t : Bool) => (.trim [[f],[f,f,f],[t,f,f],[f,f,f,f],[t,t,f,f],[f,f,t,f],[t,f,t,f],[f,f,f,t,f,t],[t,f,f,t,f,t]] (.ops [
  ⟨some [f,t,f,f,t,f,f],.move (.s [f,f,t,f]),none⟩,
  ⟨some [t,t,f,f,t,f,f],.bin .eql (.s [f,t,f,f,t,f,f]) (.c (.int .i64 0)),none⟩]) : CCode)) false true
def c51_o39 : CCode:=(fun (f t : Bool) => (.trim [[f],[f,f,f],[t,f,f],[f,f,f,f],[t,f,t,f],[f,f,f,t,f,t],[t,f,f,t,f,t]] (.ops [
  ⟨some [f,f,t,f,t,f,f],.move (.s [t,f,f]),none⟩,
  ⟨some [t,f,t,f,t,f,f],.load (some 2) (.s [t,f,t,f]),none⟩,
  ⟨some [f,t,t,f,t,f,f],.lookupA [.i .i64,.i .i64] (.int .i64 0) f (.s [f,f,t,f,t,f,f]) (.s [t,f,t,f,t,f,f]),none⟩,
  ⟨some [t,t,f,f],.move (.s [f,t,t,f,t,f,f]),none⟩]) : CCode)) false true
def c51_o40 : CCode:=(fun (f t : Bool) => (.trim [[f],[f,f,f],[t,f,f],[f,f,f,f],[t,t,f,f],[t,f,t,f],[f,f,f,t,f,t],[t,f,f,t,f,t]] (.draw 2 [
  ⟨some [t,t,t,f,t,f,f],.move (.s [f,f,f,f]),none⟩,
  ⟨some [f,f,f,t,t,f,f],.move (.s [f,f,f]),none⟩,
  ⟨some [t,f,f,t,t,f,f],.nilCheck (.s [f,f,f,t,t,f,f]),none⟩,
  ⟨some [f,t,f,t,t,f,f],.fieldAddr 0 (.s [t,f,f,t,t,f,f]),none⟩,
  ⟨some [t,t,f,t,t,f,f],.load none (.s [f,t,f,t,t,f,f]),none⟩,
  ⟨some [f,f,t,t,t,f,f],.idxArr 2 1 (.s [t,f,t,f]) (.c (.int .i64 0)),none⟩,
  ⟨some [t,f,t,t,t,f,f],.load none (.s [f,f,t,t,t,f,f]),none⟩,
  ⟨some [f,t,t,t,t,f,f],.idxSl 1 (.s [t,t,f,t,t,f,f]) (.s [t,f,t,t,t,f,f]),none⟩,
  ⟨some [t,t,t,t,t,f,f],.load none (.s [f,t,t,t,t,f,f]),none⟩,
  ⟨some [f,f,f,f,f,t,f],.buildSlice (some 0) 1 1 [.str []] [(0,1,(.s [t,t,t,t,t,f,f]))],none⟩,
  ⟨some [t,f,f,f,f,t,f],.append (some 1) 1 16 (.s [t,t,t,f,t,f,f]) (.s [f,f,f,f,f,t,f]),none⟩,
  ⟨some [f,f,f,f],.move (.s [t,f,f,f,f,t,f]),none⟩]
  [(4,6)] [[],[],[1],[1,2],[1,2,3],[],[5],[1,2,3,4,5,6],[1,2,3,4,5,6,7],[1,2,3,4,5,6,7,8],(r 10),(r 11)]) : CCode)) false true
def c51_o41 : CCode:=(fun (f t : Bool) => (.trim [[f],[f,f,f],[t,f,f],[f,f,f,f],[t,t,f,f],[t,f,t,f],[f,f,f,t,f,t],[t,f,f,t,f,t]] (.draw 0 [
  ⟨some [f,t,f,f,f,t,f],.move (.s [f,f,f]),none⟩,
  ⟨some [t,t,f,f,f,t,f],.nilCheck (.s [f,t,f,f,f,t,f]),none⟩,
  ⟨some [f,f,t,f,f,t,f],.fieldAddr 2 (.s [t,t,f,f,f,t,f]),none⟩,
  ⟨some [t,f,t,f,f,t,f],.load none (.s [f,f,t,f,f,t,f]),none⟩,
  ⟨some [f,t,t,f,f,t,f],.idxArr 2 1 (.s [t,f,t,f]) (.c (.int .i64 0)),none⟩,
  ⟨some [t,t,t,f,f,t,f],.load none (.s [f,t,t,f,f,t,f]),none⟩,
  ⟨some [f,f,f,t,f,t,f],.idxSl 1 (.s [t,f,t,f,f,t,f]) (.s [t,t,t,f,f,t,f]),none⟩,
  ⟨some [t,f,f,t,f,t,f],.load none (.s [f,f,f,t,f,t,f]),none⟩,
  ⟨some [t,f,f,f],.move (.s [t,f,f,t,f,t,f]),none⟩]
  [(3,5)] [[],[0],[0,1],[0,1,2],[],[4],(r 6),(r 7),(r 8)]) : CCode)) false true
def c51_o42 : CCode:=(fun (f t : Bool) => (.trim [[f],[f,f,f],[t,f,f],[f,f,f,f],[t,f,f,f],[t,t,f,f],[f,f,f,t,f,t],[t,f,f,t,f,t]] (.ops [
  ⟨some [f,t,f,t,f,t,f],.bin .add (.s [t,f,f,t,f,t]) (.c (.int .i64 1)),none⟩,
  ⟨some [t,f,f,t,f,t],.move (.s [f,t,f,t,f,t,f]),none⟩]) : CCode)) false true
def c51_b4 : CCode:=(fun (f t : Bool) => ((.seq c51_o25
 (.seq (.cond (.s [f,t,f,t,f,t]) .skip (.exit 6))
 (.seq (.block 7 (.seq c51_o26
 (.seq c51_o27
 (.seq (.seq c51_o28
 (.block 8 c51_l3))
 (.seq (.seq c51_o36
 (.cond (.s [t,f,f,f,t,f,f]) (.seq c51_o37
 .ret) .skip))
 (.seq (.seq c51_o38
 (.cond (.s [t,t,f,f,t,f,f]) c51_o39 .skip))
 (.seq c51_o40
 c51_o41)))))))
 c51_o42))) : CCode)) false true
def c51_l4 : CCode:=(fun (f t : Bool) => (.loop [[f],[f,f,f],[t,f,f],[f,f,f,f],[t,f,f,f],[t,t,f,f],[f,f,f,t,f,t],[t,f,f,t,f,t]] c51_b4 : CCode)) false true
def c51_o43 : CCode:=(fun (f t : Bool) => (.trim [[f,f,f,f],[t,t,f,f]] (.ops [
  ⟨some [t,t,f,t,f,t,f],.move (.s [f,f,f,f]),none⟩,
  ⟨some [f,f,t,t,f,t,f],.move (.s [t,t,f,f]),none⟩,
  ⟨some [t,f],.move (.s [t,t,f,t,f,t,f]),none⟩,
  ⟨some [f,t],.move (.s [f,f,t,t,f,t,f]),none⟩,
  ⟨some [t,t],.move (.c (.int .i64 0)),none⟩]) : CCode)) false true
def c51 : CFunc:=(fun (f t : Bool) => ({ params:=[[],[f]],results:=[.slot [t,f],.slot [f,t],.slot [t,t]],shared:=f,body:=(.seq c51_o0
 (.seq (.seq c51_o1
 (.cond (.s [t,t,f,f,f]) (.seq c51_o2
 .ret) .skip))
 (.seq c51_o3
 (.seq c51_o4
 (.seq (.seq c51_o5
 (.block 0 c51_l1))
 (.seq c51_o16
 (.seq c51_o17
 (.seq (.seq c51_o18
 (.block 4 c51_l2))
 (.seq c51_o23
 (.seq (.seq c51_o24
 (.block 6 c51_l4))
 (.seq c51_o43
 .ret))))))))))) } : CFunc)) false true
def c52_o0 : CCode:=(fun (f t : Bool) => (.trim [[],[f]] (.ops [
  ⟨some [t],.box none (.s []),none⟩,
  ⟨some [t,f],.move (.c (.bool f)),none⟩]) : CCode)) false true
def c52_o1 : CCode:=(fun (f t : Bool) => (.trim [[f],[t]] (.ops [
  ⟨some [f,t],.move (.c (.int .i64 0)),none⟩]) : CCode)) false true
def c52_o2 : CCode:=(fun (f t : Bool) => (.trim [[f],[t],[f,t]] (.ops [
  ⟨some [t,f,f],.move (.s [f,t]),none⟩,
  ⟨some [f,t,f],.move (.s [f]),none⟩,
  ⟨some [t,t,f],.len 1 (.s [f,t,f]),none⟩,
  ⟨some [f,f,t],.bin .lss (.s [t,f,f]) (.s [t,t,f]),none⟩]) : CCode)) false true
def c52_o3 : CCode:=(fun (f t : Bool) => (.trim [[f],[t],[f,t]] (.draw 0 [
  ⟨some [t,t,t],.move (.s [f]),none⟩,
  ⟨some [f,f,f,f],.move (.s [f,t]),none⟩,
  ⟨some [t,f,f,f],.idxSl 1 (.s [t,t,t]) (.s [f,f,f,f]),none⟩,
  ⟨some [f,t,f,f],.load none (.s [t,f,f,f]),none⟩,
  ⟨some [t,t,f,f],.len 1 (.s [f,t,f,f]),none⟩,
  ⟨some [f,f,t,f],.move (.s [f]),none⟩,
  ⟨some [t,f,t,f],.idxSl 1 (.s [f,f,t,f]) (.c (.int .i64 0)),none⟩,
  ⟨some [f,t,t,f],.load none (.s [t,f,t,f]),none⟩,
  ⟨some [t,t,t,f],.len 1 (.s [f,t,t,f]),none⟩,
  ⟨some [f,f,f,t],.bin .neq (.s [t,t,f,f]) (.s [t,t,t,f]),none⟩]
  [(3,7),(4,7),(3,8),(4,8)] [[],[],[0,1],[0,1,2],[0,1,2,3],[],[5],[5,6],[5,6,7],(r 9)]) : CCode)) false true
def c52_o4 : CCode:=(fun (f t : Bool) => (.trim [] (.ops [
  ⟨some [t,f],.move (.c (.bool f)),none⟩]) : CCode)) false true
def c52_o5 : CCode:=(fun (f t : Bool) => (.trim [[f],[t],[f,t]] (.ops [
  ⟨some [t,t],.move (.c (.int .i64 0)),none⟩]) : CCode)) false true
def c52_o6 : CCode:=(fun (f t : Bool) => (.trim [[f],[t],[f,t],[t,t]] (.ops [
  ⟨some [t,f,f,t],.move (.s [t,t]),none⟩,
  ⟨some [f,t,f,t],.move (.s [f]),none⟩,
  ⟨some [t,t,f,t],.move (.s [f,t]),none⟩,
  ⟨some [f,f,t,t],.idxSl 1 (.s [f,t,f,t]) (.s [t,t,f,t]),none⟩,
  ⟨some [t,f,t,t],.load none (.s [f,f,t,t]),none⟩,
  ⟨some [f,t,t,t],.len 1 (.s [t,f,t,t]),none⟩,
  ⟨some [t,t,t,t],.bin .lss (.s [t,f,f,t]) (.s [f,t,t,t]),none⟩]) : CCode)) false true
def c52_o7 : CCode:=(fun (f t : Bool) => (.trim [[f],[t],[f,t],[t,t]] (.draw 0 [
  ⟨some [f,t,f,f,f],.move (.s [f]),none⟩,
  ⟨some [t,t,f,f,f],.move (.s [f,t]),none⟩,
  ⟨some [f,f,t,f,f],.idxSl 1 (.s [f,t,f,f,f]) (.s [t,t,f,f,f]),none⟩,
  ⟨some [t,f,t,f,f],.load none (.s [f,f,t,f,f]),none⟩,
  ⟨some [f,t,t,f,f],.move (.s [t,t]),none⟩,
  ⟨some [t,t,t,f,f],.idxSl 1 (.s [t,f,t,f,f]) (.s [f,t,t,f,f]),none⟩,
  ⟨some [f,f,f,t,f],.load none (.s [t,t,t,f,f]),none⟩,
  ⟨some [t,f,f,t,f],.len 1 (.s [f,f,f,t,f]),none⟩,
  ⟨some [f,t,f,t,f],.fieldAddr 0 (.s [t]),none⟩,
  ⟨some [t,t,f,t,f],.load none (.s [f,t,f,t,f]),none⟩,
  ⟨some [f,f,t,t,f],.bin .neq (.s [t,f,f,t,f]) (.s [t,t,f,t,f]),none⟩]
  [(3,9),(6,9),(7,9)] [[],[],[0,1],[0,1,2],[],(r 5),(r 6),(r 7),[],[8],(r 10)]) : CCode)) false true
def c52_o8 : CCode:=(fun (f t : Bool) => (.trim [] (.ops [
  ⟨some [t,f],.move (.c (.bool f)),none⟩]) : CCode)) false true
def c52_o9 : CCode:=(fun (f t : Bool) => (.trim [[f],[t],[f,t],[t,t]] (.ops [
  ⟨some [f,f,f],.move (.c (.int .i64 0)),none⟩]) : CCode)) false true
def c52_o10 : CCode:=(fun (f t : Bool) => (.trim [[f],[t],[f,t],[t,t],[f,f,f]] (.ops [
  ⟨some [t,f,t,t,f],.move (.s [f,f,f]),none⟩,
  ⟨some [f,t,t,t,f],.fieldAddr 0 (.s [t]),none⟩,
  ⟨some [t,t,t,t,f],.load none (.s [f,t,t,t,f]),none⟩,
  ⟨some [f,f,f,f,t],.bin .lss (.s [t,f,t,t,f]) (.s [t,t,t,t,f]),none⟩]) : CCode)) false true
def c52_o11 : CCode:=(fun (f t : Bool) => (.trim [[f],[t],[f,t],[t,t],[f,f,f]] (.ops [
  ⟨some [t,t,f,f,t],.move (.s [f]),none⟩,
  ⟨some [f,f,t,f,t],.move (.s [f,t]),none⟩,
  ⟨some [t,f,t,f,t],.idxSl 1 (.s [t,t,f,f,t]) (.s [f,f,t,f,t]),none⟩,
  ⟨some [f,t,t,f,t],.load none (.s [t,f,t,f,t]),none⟩,
  ⟨some [t,t,t,f,t],.move (.s [t,t]),none⟩,
  ⟨some [f,f,f,t,t],.idxSl 1 (.s [f,t,t,f,t]) (.s [t,t,t,f,t]),none⟩,
  ⟨some [t,f,f,t,t],.load none (.s [f,f,f,t,t]),none⟩,
  ⟨some [f,t,f,t,t],.move (.s [f,f,f]),none⟩,
  ⟨some [t,t,f,t,t],.idxSl 1 (.s [t,f,f,t,t]) (.s [f,t,f,t,t]),none⟩,
  ⟨some [f,f,t,t,t],.load none (.s [t,t,f,t,t]),none⟩,
  ⟨some [t,f,t,t,t],.bin .lss (.s [f,f,t,t,t]) (.c (.int .i64 (-1000))),none⟩,
  ⟨some [f,t,t,t,t],.move (.s [t,f,t,t,t]),none⟩,
  ⟨some [t,t,t,t,t],.move (.s [f]),some ([f,t,t,t,t],f)⟩,
  ⟨some [f,f,f,f,f,f],.move (.s [f,t]),some ([f,t,t,t,t],f)⟩,
  ⟨some [t,f,f,f,f,f],.idxSl 1 (.s [t,t,t,t,t]) (.s [f,f,f,f,f,f]),some ([f,t,t,t,t],f)⟩,
  ⟨some [f,t,f,f,f,f],.load none (.s [t,f,f,f,f,f]),some ([f,t,t,t,t],f)⟩,
  ⟨some [t,t,f,f,f,f],.move (.s [t,t]),some ([f,t,t,t,t],f)⟩,
  ⟨some [f,f,t,f,f,f],.idxSl 1 (.s [f,t,f,f,f,f]) (.s [t,t,f,f,f,f]),some ([f,t,t,t,t],f)⟩,
  ⟨some [t,f,t,f,f,f],.load none (.s [f,f,t,f,f,f]),some ([f,t,t,t,t],f)⟩,
  ⟨some [f,t,t,f,f,f],.move (.s [f,f,f]),some ([f,t,t,t,t],f)⟩,
  ⟨some [t,t,t,f,f,f],.idxSl 1 (.s [t,f,t,f,f,f]) (.s [f,t,t,f,f,f]),some ([f,t,t,t,t],f)⟩,
  ⟨some [f,f,f,t,f,f],.load none (.s [t,t,t,f,f,f]),some ([f,t,t,t,t],f)⟩,
  ⟨some [t,f,f,t,f,f],.bin .gtr (.s [f,f,f,t,f,f]) (.c (.int .i64 1000)),some ([f,t,t,t,t],f)⟩,
  ⟨some [f,t,f,t,f,f],.pick (.s [f,t,t,t,t]) (.c (.bool t)) (.s [t,f,f,t,f,f]),none⟩]) : CCode)) false true
def c52_o12 : CCode:=(fun (f t : Bool) => (.trim [] (.ops [
  ⟨some [t,f],.move (.c (.bool f)),none⟩]) : CCode)) false true
def c52_o13 : CCode:=(fun (f t : Bool) => (.trim [[f],[t],[f,t],[t,t],[f,f,f]] (.ops [
  ⟨some [t,f,f,f,t],.move (.s [f,f,f]),none⟩,
  ⟨some [f,t,f,f,t],.bin .add (.s [t,f,f,f,t]) (.c (.int .i64 1)),none⟩,
  ⟨some [f,f,f],.move (.s [f,t,f,f,t]),none⟩]) : CCode)) false true
def c52_b0 : CCode:=(fun (f t : Bool) => ((.seq (.seq c52_o10
 (.cond (.s [f,f,f,f,t]) .skip (.exit 4)))
 (.seq (.block 5 (.seq c52_o11
 (.cond (.s [f,t,f,t,f,f]) (.seq c52_o12
 .ret) .skip)))
 c52_o13)) : CCode)) false true
def c52_l0 : CCode:=(fun (f t : Bool) => (.loop [[f],[t],[f,t],[t,t],[f,f,f]] c52_b0 : CCode)) false true
def c52_o14 : CCode:=(fun (f t : Bool) => (.trim [[f],[t],[f,t],[t,t]] (.ops [
  ⟨some [f,f,f,f,f],.move (.s [t,t]),none⟩,
  ⟨some [t,f,f,f,f],.bin .add (.s [f,f,f,f,f]) (.c (.int .i64 1)),none⟩,
  ⟨some [t,t],.move (.s [t,f,f,f,f]),none⟩]) : CCode)) false true
def c52_b1 : CCode:=(fun (f t : Bool) => ((.seq (.seq c52_o6
 (.cond (.s [t,t,t,t]) .skip (.exit 2)))
 (.seq (.block 3 (.seq (.seq c52_o7
 (.cond (.s [f,f,t,t,f]) (.seq c52_o8
 .ret) .skip))
 (.seq c52_o9
 (.block 4 c52_l0))))
 c52_o14)) : CCode)) false true
def c52_l1 : CCode:=(fun (f t : Bool) => (.loop [[f],[t],[f,t],[t,t]] c52_b1 : CCode)) false true
def c52_o15 : CCode:=(fun (f t : Bool) => (.trim [[f],[t],[f,t]] (.ops [
  ⟨some [t,f,t],.move (.s [f,t]),none⟩,
  ⟨some [f,t,t],.bin .add (.s [t,f,t]) (.c (.int .i64 1)),none⟩,
  ⟨some [f,t],.move (.s [f,t,t]),none⟩]) : CCode)) false true
def c52_b2 : CCode:=(fun (f t : Bool) => ((.seq (.seq c52_o2
 (.cond (.s [f,f,t]) .skip (.exit 0)))
 (.seq (.block 1 (.seq (.seq c52_o3
 (.cond (.s [f,f,f,t]) (.seq c52_o4
 .ret) .skip))
 (.seq c52_o5
 (.block 2 c52_l1))))
 c52_o15)) : CCode)) false true
def c52_l2 : CCode:=(fun (f t : Bool) => (.loop [[f],[t],[f,t]] c52_b2 : CCode)) false true
def c52_o16 : CCode:=(fun (f t : Bool) => (.trim [[f]] (.ops [
  ⟨some [t,t,f,t,f,f],.move (.s [f]),none⟩,
  ⟨some [f,f,t,t,f,f],.len 1 (.s [t,t,f,t,f,f]),none⟩,
  ⟨some [t,f,t,t,f,f],.bin .geq (.s [f,f,t,t,f,f]) (.c (.int .i64 1)),none⟩,
  ⟨some [f,t,t,t,f,f],.move (.s [t,f,t,t,f,f]),none⟩,
  ⟨some [t,t,t,t,f,f],.move (.s [f]),some ([f,t,t,t,f,f],t)⟩,
  ⟨some [f,f,f,f,t,f],.len 1 (.s [t,t,t,t,f,f]),some ([f,t,t,t,f,f],t)⟩,
  ⟨some [t,f,f,f,t,f],.bin .leq (.s [f,f,f,f,t,f]) (.c (.int .i64 40)),some ([f,t,t,t,f,f],t)⟩,
  ⟨some [f,t,f,f,t,f],.pick (.s [f,t,t,t,f,f]) (.s [t,f,f,f,t,f]) (.c (.bool f)),none⟩,
  ⟨some [t,t,f,f,t,f],.move (.s [f,t,f,f,t,f]),none⟩,
  ⟨some [f,f,t,f,t,f],.move (.s [f]),some ([t,t,f,f,t,f],t)⟩,
  ⟨some [t,f,t,f,t,f],.idxSl 1 (.s [f,f,t,f,t,f]) (.c (.int .i64 0)),some ([t,t,f,f,t,f],t)⟩,
  ⟨some [f,t,t,f,t,f],.load none (.s [t,f,t,f,t,f]),some ([t,t,f,f,t,f],t)⟩,
  ⟨some [t,t,t,f,t,f],.len 1 (.s [f,t,t,f,t,f]),some ([t,t,f,f,t,f],t)⟩,
  ⟨some [f,f,f,t,t,f],.bin .geq (.s [t,t,t,f,t,f]) (.c (.int .i64 1)),some ([t,t,f,f,t,f],t)⟩,
  ⟨some [t,f,f,t,t,f],.pick (.s [t,t,f,f,t,f]) (.s [f,f,f,t,t,f]) (.c (.bool f)),none⟩,
  ⟨some [f,t,f,t,t,f],.move (.s [t,f,f,t,t,f]),none⟩,
  ⟨some [t,t,f,t,t,f],.move (.s [f]),some ([f,t,f,t,t,f],t)⟩,
  ⟨some [f,f,t,t,t,f],.idxSl 1 (.s [t,t,f,t,t,f]) (.c (.int .i64 0)),some ([f,t,f,t,t,f],t)⟩,
  ⟨some [t,f,t,t,t,f],.load none (.s [f,f,t,t,t,f]),some ([f,t,f,t,t,f],t)⟩,
  ⟨some [f,t,t,t,t,f],.len 1 (.s [t,f,t,t,t,f]),some ([f,t,f,t,t,f],t)⟩,
  ⟨some [t,t,t,t,t,f],.bin .leq (.s [f,t,t,t,t,f]) (.c (.int .i64 5)),some ([f,t,f,t,t,f],t)⟩,
  ⟨some [f,f,f,f,f,t],.pick (.s [f,t,f,t,t,f]) (.s [t,t,t,t,t,f]) (.c (.bool f)),none⟩,
  ⟨some [t,f],.move (.s [f,f,f,f,f,t]),none⟩]) : CCode)) false true
def c52 : CFunc:=(fun (f t : Bool) => ({ params:=[[],[f]],results:=[.slot [t,f]],shared:=f,body:=(.seq c52_o0
 (.seq (.seq c52_o1
 (.block 0 c52_l2))
 (.seq c52_o16
 .ret))) } : CFunc)) false true
def c53_o0 : CCode:=(fun (f t : Bool) => (.trim [[],[f]] (.ops [
  ⟨some [t],.box none (.s []),none⟩,
  ⟨some [t,f],.move (.c (.nils)),none⟩,
  ⟨some [f,t],.move (.c (.int .i64 0)),none⟩,
  ⟨some [t,t],.move (.c (.bool f)),none⟩]) : CCode)) false true
def c53_o1 : CCode:=(fun (f t : Bool) => (.trim [[f],[t]] (.ops [
  ⟨some [f,f,f,t],.move (.s [f]),none⟩,
  ⟨some [t,f,f,t],.len 1 (.s [f,f,f,t]),none⟩,
  ⟨some [f,f,f],.move (.s [t,f,f,t]),none⟩]) : CCode)) false true
def c53_o2 : CCode:=(fun (f t : Bool) => (.trim [[f],[t],[f,f,f]] (.draw 0 [
  ⟨some [f,t,f,t],.load (some 3) (.s [t]),none⟩,
  ⟨some [t,t,f,t],.move (.s [f]),none⟩,
  ⟨some [f,f,t,t],.idxSl 1 (.s [t,t,f,t]) (.c (.int .i64 0)),none⟩,
  ⟨some [t,f,t,t],.load none (.s [f,f,t,t]),none⟩,
  ⟨some [f,t,t,t],.len 1 (.s [t,f,t,t]),none⟩,
  ⟨some [t,t,t,t],.call f (.c (.func 30 [])) [(.s [f,t,f,t]),(.s [f,t,t,t])],none⟩,
  ⟨some [f,f,f,f,f],.load (some 3) (.s [t]),none⟩,
  ⟨some [t,f,f,f,f],.move (.s [f]),none⟩,
  ⟨some [f,t,f,f,f],.idxSl 1 (.s [t,f,f,f,f]) (.c (.int .i64 0)),none⟩,
  ⟨some [t,t,f,f,f],.load none (.s [f,t,f,f,f]),none⟩,
  ⟨some [f,f,t,f,f],.len 1 (.s [t,t,f,f,f]),none⟩,
  ⟨some [t,f,t,f,f],.call f (.c (.func 31 [])) [(.s [f,f,f,f,f]),(.s [f,f,t,f,f])],none⟩,
  ⟨some [t,f,f],.move (.s [t,t,t,t]),none⟩,
  ⟨some [f,t,f],.move (.s [t,f,t,f,f]),none⟩]
  [(0,3),(0,4),(0,6),(3,6),(4,6),(5,6),(0,9),(3,9),(4,9),(5,9),(6,9),(0,10),(3,10),(4,10),(5,10),(6,10)] [[],[],[1],[1,2],[1,2,3],(r 5),[],[],[7],[7,8],[7,8,9],(r 11),(r 12),(r 13)]) : CCode)) false true
def c53_o3 : CCode:=(fun (f t : Bool) => (.trim [[f],[f,f,f],[t,f,f],[f,t,f]] (.ops [
  ⟨some [f,t,t,f,f],.move (.s [f,f,f]),none⟩,
  ⟨some [t,t,t,f,f],.makeSlice none 1 24 [.nils] (.s [f,t,t,f,f]),none⟩,
  ⟨some [t,t,f],.move (.s [t,t,t,f,f]),none⟩]) : CCode)) false true
def c53_o4 : CCode:=(fun (f t : Bool) => (.trim [[f],[f,f,f],[t,f,f],[f,t,f],[t,t,f]] (.ops [
  ⟨some [f,f,f,t,f],.move (.s [f,f,f]),none⟩,
  ⟨some [t,f,f,t,f],.bin .sub (.s [f,f,f,t,f]) (.c (.int .i64 1)),none⟩,
  ⟨some [f,f,t],.move (.s [t,f,f,t,f]),none⟩]) : CCode)) false true
def c53_o5 : CCode:=(fun (f t : Bool) => (.trim [[f],[f,f,f],[t,f,f],[f,t,f],[t,t,f],[f,f,t]] (.ops [
  ⟨some [f,t,f,t,f],.move (.s [f,f,t]),none⟩,
  ⟨some [t,t,f,t,f],.bin .geq (.s [f,t,f,t,f]) (.c (.int .i64 0)),none⟩]) : CCode)) false true
def c53_o6 : CCode:=(fun (f t : Bool) => (.trim [[f],[f,f,f],[t,f,f],[f,t,f],[t,t,f],[f,f,t]] (.ops [
  ⟨some [t,f,t],.move (.c (.int .i64 0)),none⟩]) : CCode)) false true
def c53_o7 : CCode:=(fun (f t : Bool) => (.trim [[f],[f,f,f],[t,f,f],[f,t,f],[t,t,f],[f,f,t],[t,f,t]] (.ops [
  ⟨some [f,t,t,t,f],.move (.s [t,f,t]),none⟩,
  ⟨some [t,t,t,t,f],.move (.s [t,f,f]),none⟩,
  ⟨some [f,f,f,f,t],.len 1 (.s [t,t,t,t,f]),none⟩,
  ⟨some [t,f,f,f,t],.bin .lss (.s [f,t,t,t,f]) (.s [f,f,f,f,t]),none⟩]) : CCode)) false true
def c53_o8 : CCode:=(fun (f t : Bool) => (.trim [[f],[f,f,f],[t,f,f],[f,t,f],[t,t,f],[f,f,t],[t,f,t]] (.ops [
  ⟨some [f,t,t],.move (.c (.int .i64 0)),none⟩]) : CCode)) false true
def c53_o9 : CCode:=(fun (f t : Bool) => (.trim [[f],[f,f,f],[t,f,f],[f,t,f],[t,t,f],[f,f,t],[t,f,t],[f,t,t]] (.ops [
  ⟨some [f,f,t,f,t],.move (.s [f,f,t]),none⟩,
  ⟨some [t,f,t,f,t],.move (.s [f,f,f]),none⟩,
  ⟨some [f,t,t,f,t],.bin .sub (.s [t,f,t,f,t]) (.c (.int .i64 1)),none⟩,
  ⟨some [t,t,t,f,t],.bin .lss (.s [f,f,t,f,t]) (.s [f,t,t,f,t]),none⟩]) : CCode)) false true
def c53_o10 : CCode:=(fun (f t : Bool) => (.trim [[f],[f,f,f],[t,f,f],[f,t,f],[t,t,f],[f,f,t],[t,f,t]] (.ops [
  ⟨some [f,t,t],.move (.c (.int .i64 (-1000000000))),none⟩]) : CCode)) false true
def c53_o11 : CCode:=(fun (f t : Bool) => (.trim [[f],[f,f,f],[t,f,f],[f,t,f],[t,t,f],[f,f,t],[t,f,t],[f,t,t]] (.ops [
  ⟨some [t,t,t],.move (.c (.int .i64 0)),none⟩]) : CCode)) false true
def c53_o12 : CCode:=(fun (f t : Bool) => (.trim [[f],[f,f,f],[t,f,f],[f,t,f],[t,t,f],[f,f,t],[t,f,t],[f,t,t],[t,t,t]] (.ops [
  ⟨some [f,f,f,t,t],.move (.s [t,t,t]),none⟩,
  ⟨some [t,f,f,t,t],.move (.s [f,t,f]),none⟩,
  ⟨some [f,t,f,t,t],.move (.s [t,f,t]),none⟩,
  ⟨some [t,t,f,t,t],.idxSl 1 (.s [t,f,f,t,t]) (.s [f,t,f,t,t]),none⟩,
  ⟨some [f,f,t,t,t],.load none (.s [t,t,f,t,t]),none⟩,
  ⟨some [t,f,t,t,t],.len 1 (.s [f,f,t,t,t]),none⟩,
  ⟨some [f,t,t,t,t],.bin .lss (.s [f,f,f,t,t]) (.s [t,f,t,t,t]),none⟩]) : CCode)) false true
def c53_o13 : CCode:=(fun (f t : Bool) => (.trim [[f],[f,f,f],[t,f,f],[f,t,f],[t,t,f],[f,f,t],[t,f,t],[f,t,t],[t,t,t]] (.draw 0 [
  ⟨some [t,f,f,f,f,f],.move (.s [f,t,t]),none⟩,
  ⟨some [f,t,f,f,f,f],.move (.s [t,t,f]),none⟩,
  ⟨some [t,t,f,f,f,f],.move (.s [f,f,t]),none⟩,
  ⟨some [f,f,t,f,f,f],.bin .add (.s [t,t,f,f,f,f]) (.c (.int .i64 1)),none⟩,
  ⟨some [t,f,t,f,f,f],.idxSl 1 (.s [f,t,f,f,f,f]) (.s [f,f,t,f,f,f]),none⟩,
  ⟨some [f,t,t,f,f,f],.load none (.s [t,f,t,f,f,f]),none⟩,
  ⟨some [t,t,t,f,f,f],.move (.s [f,t,f]),none⟩,
  ⟨some [f,f,f,t,f,f],.move (.s [t,f,t]),none⟩,
  ⟨some [t,f,f,t,f,f],.idxSl 1 (.s [t,t,t,f,f,f]) (.s [f,f,f,t,f,f]),none⟩,
  ⟨some [f,t,f,t,f,f],.load none (.s [t,f,f,t,f,f]),none⟩,
  ⟨some [t,t,f,t,f,f],.move (.s [t,t,t]),none⟩,
  ⟨some [f,f,t,t,f,f],.idxSl 1 (.s [f,t,f,t,f,f]) (.s [t,t,f,t,f,f]),none⟩,
  ⟨some [t,f,t,t,f,f],.load none (.s [f,f,t,t,f,f]),none⟩,
  ⟨some [f,t,t,t,f,f],.idxSl 1 (.s [f,t,t,f,f,f]) (.s [t,f,t,t,f,f]),none⟩,
  ⟨some [t,t,t,t,f,f],.load none (.s [f,t,t,t,f,f]),none⟩,
  ⟨some [f,f,f,f,t,f],.minmax t (.s [t,f,f,f,f,f]) (.s [t,t,t,t,f,f]),none⟩,
  ⟨some [f,t,t],.move (.s [f,f,f,f,t,f]),none⟩]
  [(5,9),(5,12)] [[],[],[],[2],[1,2,3],[1,2,3,4],[],[],[6,7],[6,7,8],[],[6,7,8,9,10],[6,7,8,9,10,11],[1,2,3,4,5,6,7,8,9,10,11,12],[1,2,3,4,5,6,7,8,9,10,11,12,13],(r 15),(r 16)]) : CCode)) false true
def c53_o14 : CCode:=(fun (f t : Bool) => (.trim [[f],[f,f,f],[t,f,f],[f,t,f],[t,t,f],[f,f,t],[t,f,t],[f,t,t],[t,t,t]] (.ops [
  ⟨some [t,t,t,t,t],.move (.s [t,t,t]),none⟩,
  ⟨some [f,f,f,f,f,f],.bin .add (.s [t,t,t,t,t]) (.c (.int .i64 1)),none⟩,
  ⟨some [t,t,t],.move (.s [f,f,f,f,f,f]),none⟩]) : CCode)) false true
def c53_b0 : CCode:=(fun (f t : Bool) => ((.seq (.seq c53_o12
 (.cond (.s [f,t,t,t,t]) .skip (.exit 4)))
 (.seq (.block 5 c53_o13)
 c53_o14)) : CCode)) false true
def c53_l0 : CCode:=(fun (f t : Bool) => (.loop [[f],[f,f,f],[t,f,f],[f,t,f],[t,t,f],[f,f,t],[t,f,t],[f,t,t],[t,t,t]] c53_b0 : CCode)) false true
def c53_o15 : CCode:=(fun (f t : Bool) => (.trim [[f],[f,f,f],[t,f,f],[f,t,f],[t,t,f],[f,f,t],[t,f,t],[f,t,t]] (.draw 2 [
  ⟨some [t,f,f,f,t,f],.move (.s [t,t,f]),none⟩,
  ⟨some [f,t,f,f,t,f],.move (.s [f,f,t]),none⟩,
  ⟨some [t,t,f,f,t,f],.move (.s [t,t,f]),none⟩,
  ⟨some [f,f,t,f,t,f],.move (.s [f,f,t]),none⟩,
  ⟨some [t,f,t,f,t,f],.idxSl 1 (.s [t,t,f,f,t,f]) (.s [f,f,t,f,t,f]),none⟩,
  ⟨some [f,t,t,f,t,f],.load none (.s [t,f,t,f,t,f]),none⟩,
  ⟨some [t,t,t,f,t,f],.move (.s [f,t,t]),none⟩,
  ⟨some [f,f,f,t,t,f],.move (.s [f]),none⟩,
  ⟨some [t,f,f,t,t,f],.move (.s [f,f,t]),none⟩,
  ⟨some [f,t,f,t,t,f],.idxSl 1 (.s [f,f,f,t,t,f]) (.s [t,f,f,t,t,f]),none⟩,
  ⟨some [t,t,f,t,t,f],.load none (.s [f,t,f,t,t,f]),none⟩,
  ⟨some [f,f,t,t,t,f],.move (.s [t,f,f]),none⟩,
  ⟨some [t,f,t,t,t,f],.move (.s [t,f,t]),none⟩,
  ⟨some [f,t,t,t,t,f],.idxSl 1 (.s [f,f,t,t,t,f]) (.s [t,f,t,t,t,f]),none⟩,
  ⟨some [t,t,t,t,t,f],.load none (.s [f,t,t,t,t,f]),none⟩,
  ⟨some [f,f,f,f,f,t],.call f (.c (.func 86 [])) [(.s [t,t,f,t,t,f]),(.s [t,t,t,t,t,f])],none⟩,
  ⟨some [t,f,f,f,f,t],.bin .add (.s [t,t,t,f,t,f]) (.s [f,f,f,f,f,t]),none⟩,
  ⟨some [f,t,f,f,f,t],.minmax t (.c (.int .i64 (-1000000000))) (.s [t,f,f,f,f,t]),none⟩,
  ⟨some [t,t,f,f,f,t],.buildSlice (some 0) 1 1 [.int .i64 0] [(0,1,(.s [f,t,f,f,f,t]))],none⟩,
  ⟨some [f,f,t,f,f,t],.append (some 1) 1 8 (.s [f,t,t,f,t,f]) (.s [t,t,f,f,f,t]),none⟩,
  ⟨some [t,f,t,f,f,t],.idxSl 1 (.s [t,f,f,f,t,f]) (.s [f,t,f,f,t,f]),none⟩,
  ⟨none,.store 1 (.s [t,f,t,f,f,t]) (.s [f,f,t,f,f,t]),none⟩]
  [(5,10),(5,14),(10,14),(5,15),(5,18)] [[],[],[],[],[2,3],[2,3,4],[],[],[],[7,8],[7,8,9],[],[],[11,12],[11,12,13],[7,8,9,10,11,12,13,14],[6,7,8,9,10,11,12,13,14,15],[6,7,8,9,10,11,12,13,14,15,16],[6,7,8,9,10,11,12,13,14,15,16,17],[2,3,4,5,6,7,8,9,10,11,12,13,14,15,16,17,18],(r 20),(r 21)]) : CCode)) false true
def c53_o16 : CCode:=(fun (f t : Bool) => (.trim [[f],[f,f,f],[t,f,f],[f,t,f],[t,t,f],[f,f,t],[t,f,t]] (.ops [
  ⟨some [f,t,f,f,t],.move (.s [t,f,t]),none⟩,
  ⟨some [t,t,f,f,t],.bin .add (.s [f,t,f,f,t]) (.c (.int .i64 1)),none⟩,
  ⟨some [t,f,t],.move (.s [t,t,f,f,t]),none⟩]) : CCode)) false true
def c53_b1 : CCode:=(fun (f t : Bool) => ((.seq (.seq c53_o7
 (.cond (.s [t,f,f,f,t]) .skip (.exit 2)))
 (.seq (.block 3 (.seq c53_o8
 (.seq (.seq c53_o9
 (.cond (.s [t,t,t,f,t]) (.seq c53_o10
 (.seq c53_o11
 (.block 4 c53_l0))) .skip))
 c53_o15)))
 c53_o16)) : CCode)) false true
def c53_l1 : CCode:=(fun (f t : Bool) => (.loop [[f],[f,f,f],[t,f,f],[f,t,f],[t,t,f],[f,f,t],[t,f,t]] c53_b1 : CCode)) false true
def c53_o17 : CCode:=(fun (f t : Bool) => (.trim [[f],[f,f,f],[t,f,f],[f,t,f],[t,t,f],[f,f,t]] (.ops [
  ⟨some [f,f,t,t,f],.move (.s [f,f,t]),none⟩,
  ⟨some [t,f,t,t,f],.bin .sub (.s [f,f,t,t,f]) (.c (.int .i64 1)),none⟩,
  ⟨some [f,f,t],.move (.s [t,f,t,t,f]),none⟩]) : CCode)) false true
def c53_b2 : CCode:=(fun (f t : Bool) => ((.seq (.seq c53_o5
 (.cond (.s [t,t,f,t,f]) .skip (.exit 0)))
 (.seq (.block 1 (.seq c53_o6
 (.block 2 c53_l1)))
 c53_o17)) : CCode)) false true
def c53_l2 : CCode:=(fun (f t : Bool) => (.loop [[f],[f,f,f],[t,f,f],[f,t,f],[t,t,f],[f,f,t]] c53_b2 : CCode)) false true
def c53_o18 : CCode:=(fun (f t : Bool) => (.trim [[f],[f,f,f],[t,f,f],[f,t,f],[t,t,f]] (.ops [
  ⟨some [f,f,f,f],.move (.c (.nils)),none⟩]) : CCode)) false true
def c53_o19 : CCode:=(fun (f t : Bool) => (.trim [[f],[f,f,f],[t,f,f],[f,t,f],[t,t,f],[f,f,f,f]] (.ops [
  ⟨some [t,f,f,f],.move (.c (.int .i64 (-1000000000))),none⟩]) : CCode)) false true
def c53_o20 : CCode:=(fun (f t : Bool) => (.trim [[f],[f,f,f],[t,f,f],[f,t,f],[t,t,f],[f,f,f,f],[t,f,f,f]] (.ops [
  ⟨some [f,t,f,f],.move (.c (.int .i64 0)),none⟩]) : CCode)) false true
def c53_o21 : CCode:=(fun (f t : Bool) => (.trim [[f],[f,f,f],[t,f,f],[f,t,f],[t,t,f],[f,f,f,f],[t,f,f,f],[f,t,f,f]] (.ops [
  ⟨some [f,t,t,f,f,t],.move (.s [f,t,f,f]),none⟩,
  ⟨some [t,t,t,f,f,t],.move (.s [t,f,f]),none⟩,
  ⟨some [f,f,f,t,f,t],.len 1 (.s [t,t,t,f,f,t]),none⟩,
  ⟨some [t,f,f,t,f,t],.bin .lss (.s [f,t,t,f,f,t]) (.s [f,f,f,t,f,t]),none⟩]) : CCode)) false true
def c53_o22 : CCode:=(fun (f t : Bool) => (.trim [[f],[f,f,f],[t,f,f],[f,t,f],[t,t,f],[f,f,f,f],[t,f,f,f],[f,t,f,f]] (.ops [
  ⟨some [f,f,t,t,f,t],.move (.s [f,f,f,f]),none⟩,
  ⟨some [t,f,t,t,f,t],.move (.s [f,t,f,f]),none⟩,
  ⟨some [f,t,t,t,f,t],.buildSlice none 1 1 [.int .i64 0] [(0,1,(.s [t,f,t,t,f,t]))],none⟩,
  ⟨some [t,t,t,t,f,t],.append none 1 8 (.s [f,f,t,t,f,t]) (.s [f,t,t,t,f,t]),none⟩,
  ⟨some [f,f,f,f],.move (.s [t,t,t,t,f,t]),none⟩]) : CCode)) false true
def c53_o23 : CCode:=(fun (f t : Bool) => (.trim [[f],[f,f,f],[t,f,f],[f,t,f],[t,t,f],[f,f,f,f],[t,f,f,f],[f,t,f,f]] (.ops [
  ⟨some [f,f,f,f,t,t],.move (.s [t,f,f,f]),none⟩,
  ⟨some [t,f,f,f,t,t],.move (.s [t,t,f]),none⟩,
  ⟨some [f,t,f,f,t,t],.idxSl 1 (.s [t,f,f,f,t,t]) (.c (.int .i64 0)),none⟩,
  ⟨some [t,t,f,f,t,t],.load none (.s [f,t,f,f,t,t]),none⟩,
  ⟨some [f,f,t,f,t,t],.move (.s [f,t,f,f]),none⟩,
  ⟨some [t,f,t,f,t,t],.idxSl 1 (.s [t,t,f,f,t,t]) (.s [f,f,t,f,t,t]),none⟩,
  ⟨some [f,t,t,f,t,t],.load none (.s [t,f,t,f,t,t]),none⟩,
  ⟨some [t,t,t,f,t,t],.minmax t (.s [f,f,f,f,t,t]) (.s [f,t,t,f,t,t]),none⟩,
  ⟨some [t,f,f,f],.move (.s [t,t,t,f,t,t]),none⟩]) : CCode)) false true
def c53_o24 : CCode:=(fun (f t : Bool) => (.trim [[f],[f,f,f],[t,f,f],[f,t,f],[t,t,f],[f,f,f,f],[t,f,f,f],[f,t,f,f]] (.ops [
  ⟨some [f,t,f,t,f,t],.move (.s [f,t,f,f]),none⟩,
  ⟨some [t,t,f,t,f,t],.bin .add (.s [f,t,f,t,f,t]) (.c (.int .i64 1)),none⟩,
  ⟨some [f,t,f,f],.move (.s [t,t,f,t,f,t]),none⟩]) : CCode)) false true
def c53_b3 : CCode:=(fun (f t : Bool) => ((.seq (.seq c53_o21
 (.cond (.s [t,f,f,t,f,t]) .skip (.exit 6)))
 (.seq (.block 7 (.seq c53_o22
 c53_o23))
 c53_o24)) : CCode)) false true
def c53_l3 : CCode:=(fun (f t : Bool) => (.loop [[f],[f,f,f],[t,f,f],[f,t,f],[t,t,f],[f,f,f,f],[t,f,f,f],[f,t,f,f]] c53_b3 : CCode)) false true
def c53_o25 : CCode:=(fun (f t : Bool) => (.trim [[f],[f,f,f],[t,f,f],[f,t,f],[t,t,f],[f,f,f,f],[t,f,f,f]] (.ops [
  ⟨some [f,f,f,t,t,t],.move (.s [t,f,f,f]),none⟩,
  ⟨some [t,f,f,t,t,t],.bin .lss (.s [f,f,f,t,t,t]) (.c (.int .i64 (-200000))),none⟩]) : CCode)) false true
def c53_o26 : CCode:=(fun (f t : Bool) => (.trim [] (.ops [
  ⟨some [t,f],.move (.c (.nils)),none⟩,
  ⟨some [f,t],.move (.c (.int .i64 0)),none⟩,
  ⟨some [t,t],.move (.c (.bool f)),none⟩]) : CCode)) false true
def c53_o27 : CCode:=(fun (f t : Bool) => (.trim [[f],[f,f,f],[t,f,f],[f,t,f],[t,t,f],[f,f,f,f],[t,f,f,f]] (.ops [
  ⟨some [t,t,f,f],.move (.c (.nils)),none⟩]) : CCode)) false true
def c53_o28 : CCode:=(fun (f t : Bool) => (.trim [[f],[f,f,f],[t,f,f],[f,t,f],[t,t,f],[f,f,f,f],[t,f,f,f],[t,t,f,f]] (.ops [
  ⟨some [f,t,f,t,t,t],.move (.s [t,f,f,f]),none⟩,
  ⟨some [f,f,t,f],.move (.s [f,t,f,t,t,t]),none⟩]) : CCode)) false true
def c53_o29 : CCode:=(fun (f t : Bool) => (.trim [[f],[f,f,f],[t,f,f],[f,t,f],[t,t,f],[f,f,f,f],[t,f,f,f],[t,t,f,f],[f,f,t,f]] (.ops [
  ⟨some [t,f,t,f],.move (.c (.int .i64 0)),none⟩]) : CCode)) false true
def c53_o30 : CCode:=(fun (f t : Bool) => (.trim [[f],[f,f,f],[t,f,f],[f,t,f],[t,t,f],[f,f,f,f],[t,f,f,f],[t,t,f,f],[f,f,t,f],[t,f,t,f]] (.ops [
  ⟨some [t,t,f,t,t,t],.move (.s [t,f,t,f]),none⟩,
  ⟨some [f,f,t,t,t,t],.move (.s [f,f,f]),none⟩,
  ⟨some [t,f,t,t,t,t],.bin .lss (.s [t,t,f,t,t,t]) (.s [f,f,t,t,t,t]),none⟩]) : CCode)) false true
def c53_o31 : CCode:=(fun (f t : Bool) => (.trim [[f],[f,f,f],[t,f,f],[f,t,f],[t,t,f],[f,f,f,f],[t,f,f,f],[t,t,f,f],[f,f,t,f],[t,f,t,f]] (.ops [
  ⟨some [f,t,t,f],.move (.c (.int .i64 0)),none⟩]) : CCode)) false true
def c53_o32 : CCode:=(fun (f t : Bool) => (.trim [[f],[f,f,f],[t,f,f],[f,t,f],[t,t,f],[f,f,f,f],[t,f,f,f],[t,t,f,f],[f,f,t,f],[t,f,t,f],[f,t,t,f]] (.draw 0 [
  ⟨some [f,f,f,f,f,f,f],.move (.s [t,t,f]),none⟩,
  ⟨some [t,f,f,f,f,f,f],.move (.s [t,f,t,f]),none⟩,
  ⟨some [f,t,f,f,f,f,f],.idxSl 1 (.s [f,f,f,f,f,f,f]) (.s [t,f,f,f,f,f,f]),none⟩,
  ⟨some [t,t,f,f,f,f,f],.load none (.s [f,t,f,f,f,f,f]),none⟩,
  ⟨some [f,f,t,f,f,f,f],.move (.s [f,f,f,f]),none⟩,
  ⟨some [t,f,t,f,f,f,f],.move (.s [f,t,t,f]),none⟩,
  ⟨some [f,t,t,f,f,f,f],.idxSl 1 (.s [f,f,t,f,f,f,f]) (.s [t,f,t,f,f,f,f]),none⟩,
  ⟨some [t,t,t,f,f,f,f],.load none (.s [f,t,t,f,f,f,f]),none⟩,
  ⟨some [f,f,f,t,f,f,f],.idxSl 1 (.s [t,t,f,f,f,f,f]) (.s [t,t,t,f,f,f,f]),none⟩,
  ⟨some [t,f,f,t,f,f,f],.load none (.s [f,f,f,t,f,f,f]),none⟩,
  ⟨some [f,t,f,t,f,f,f],.move (.s [f,f,t,f]),none⟩,
  ⟨some [t,t,f,t,f,f,f],.bin .neq (.s [t,f,f,t,f,f,f]) (.s [f,t,f,t,f,f,f]),none⟩]
  [(3,7)] [[],[],[0,1],[0,1,2],[],[],[4,5],[4,5,6],(r 8),(r 9),[],(r 11)]) : CCode)) false true
def c53_o33 : CCode:=(fun (f t : Bool) => (.trim [[f],[f,f,f],[t,f,f],[f,t,f],[t,t,f],[f,f,f,f],[t,f,f,f],[t,t,f,f],[f,f,t,f],[t,f,t,f],[f,t,t,f]] (.ops [
  ⟨some [f,f,t,t,f,f,f],.move (.s [f,t,t,f]),none⟩,
  ⟨some [t,f,t,t,f,f,f],.bin .add (.s [f,f,t,t,f,f,f]) (.c (.int .i64 1)),none⟩,
  ⟨some [f,t,t,f],.move (.s [t,f,t,t,f,f,f]),none⟩]) : CCode)) false true
def c53_b4 : CCode:=(fun (f t : Bool) => ((.seq (.seq c53_o32
 (.cond (.s [t,t,f,t,f,f,f]) .skip (.exit 10)))
 (.block 11 c53_o33)) : CCode)) false true
def c53_l4 : CCode:=(fun (f t : Bool) => (.loop [[f],[f,f,f],[t,f,f],[f,t,f],[t,t,f],[f,f,f,f],[t,f,f,f],[t,t,f,f],[f,f,t,f],[t,f,t,f],[f,t,t,f]] c53_b4 : CCode)) false true
def c53_o34 : CCode:=(fun (f t : Bool) => (.trim [[f],[f,f,f],[t,f,f],[f,t,f],[t,t,f],[f,f,f,f],[t,f,f,f],[t,t,f,f],[f,f,t,f],[t,f,t,f],[f,t,t,f]] (.ops [
  ⟨some [f,t,t,t,f,f,f],.move (.s [f,f,f,f]),none⟩,
  ⟨some [t,t,t,t,f,f,f],.move (.s [f,t,t,f]),none⟩,
  ⟨some [f,f,f,f,t,f,f],.idxSl 1 (.s [f,t,t,t,f,f,f]) (.s [t,t,t,t,f,f,f]),none⟩,
  ⟨some [t,f,f,f,t,f,f],.load none (.s [f,f,f,f,t,f,f]),none⟩,
  ⟨some [t,t,t,f],.move (.s [t,f,f,f,t,f,f]),none⟩]) : CCode)) false true
def c53_o35 : CCode:=(fun (f t : Bool) => (.trim [[f],[f,f,f],[t,f,f],[f,t,f],[t,t,f],[t,f,f,f],[t,t,f,f],[f,f,t,f],[t,f,t,f],[t,t,t,f]] (.ops [
  ⟨some [f,t,f,f,t,f,f],.move (.s [t,t,f,f]),none⟩,
  ⟨some [t,t,f,f,t,f,f],.move (.s [t,f,f]),none⟩,
  ⟨some [f,f,t,f,t,f,f],.move (.s [t,t,t,f]),none⟩,
  ⟨some [t,f,t,f,t,f,f],.idxSl 1 (.s [t,t,f,f,t,f,f]) (.s [f,f,t,f,t,f,f]),none⟩,
  ⟨some [f,t,t,f,t,f,f],.load none (.s [t,f,t,f,t,f,f]),none⟩,
  ⟨some [t,t,t,f,t,f,f],.buildSlice none 1 1 [.str []] [(0,1,(.s [f,t,t,f,t,f,f]))],none⟩,
  ⟨some [f,f,f,t,t,f,f],.append none 1 16 (.s [f,t,f,f,t,f,f]) (.s [t,t,t,f,t,f,f]),none⟩,
  ⟨some [t,t,f,f],.move (.s [f,f,f,t,t,f,f]),none⟩]) : CCode)) false true
def c53_o36 : CCode:=(fun (f t : Bool) => (.trim [[f],[f,f,f],[t,f,f],[f,t,f],[t,t,f],[t,f,f,f],[t,t,f,f],[f,f,t,f],[t,f,t,f],[t,t,t,f]] (.draw 0 [
  ⟨some [t,f,f,t,t,f,f],.move (.s [f,f,t,f]),none⟩,
  ⟨some [f,t,f,t,t,f,f],.move (.s [f]),none⟩,
  ⟨some [t,t,f,t,t,f,f],.move (.s [t,f,t,f]),none⟩,
  ⟨some [f,f,t,t,t,f,f],.idxSl 1 (.s [f,t,f,t,t,f,f]) (.s [t,t,f,t,t,f,f]),none⟩,
  ⟨some [t,f,t,t,t,f,f],.load none (.s [f,f,t,t,t,f,f]),none⟩,
  ⟨some [f,t,t,t,t,f,f],.move (.s [t,f,f]),none⟩,
  ⟨some [t,t,t,t,t,f,f],.move (.s [t,t,t,f]),none⟩,
  ⟨some [f,f,f,f,f,t,f],.idxSl 1 (.s [f,t,t,t,t,f,f]) (.s [t,t,t,t,t,f,f]),none⟩,
  ⟨some [t,f,f,f,f,t,f],.load none (.s [f,f,f,f,f,t,f]),none⟩,
  ⟨some [f,t,f,f,f,t,f],.call f (.c (.func 86 [])) [(.s [t,f,t,t,t,f,f]),(.s [t,f,f,f,f,t,f])],none⟩,
  ⟨some [t,t,f,f,f,t,f],.bin .sub (.s [t,f,f,t,t,f,f]) (.s [f,t,f,f,f,t,f]),none⟩,
  ⟨some [f,f,t,f],.move (.s [t,t,f,f,f,t,f]),none⟩]
  [(4,8)] [[],[],[],[1,2],[1,2,3],[],[],[5,6],[5,6,7],[1,2,3,4,5,6,7,8],(r 10),(r 11)]) : CCode)) false true
def c53_o37 : CCode:=(fun (f t : Bool) => (.trim [[f],[f,f,f],[t,f,f],[f,t,f],[t,t,f],[t,f,f,f],[t,t,f,f],[f,f,t,f],[t,f,t,f],[t,t,t,f]] (.ops [
  ⟨some [f,f,t,f,f,t,f],.move (.s [f,t,f]),none⟩,
  ⟨some [t,f,t,f,f,t,f],.move (.s [t,t,t,f]),none⟩,
  ⟨some [f,t,t,f,f,t,f],.idxSl 1 (.s [f,f,t,f,f,t,f]) (.s [t,f,t,f,f,t,f]),none⟩,
  ⟨some [t,t,t,f,f,t,f],.load none (.s [f,t,t,f,f,t,f]),none⟩,
  ⟨some [f,f,f,f],.move (.s [t,t,t,f,f,t,f]),none⟩]) : CCode)) false true
def c53_o38 : CCode:=(fun (f t : Bool) => (.trim [[f],[f,f,f],[t,f,f],[f,t,f],[t,t,f],[f,f,f,f],[t,f,f,f],[t,t,f,f],[f,f,t,f],[t,f,t,f]] (.ops [
  ⟨some [f,t,t,t,t,t],.move (.s [t,f,t,f]),none⟩,
  ⟨some [t,t,t,t,t,t],.bin .add (.s [f,t,t,t,t,t]) (.c (.int .i64 1)),none⟩,
  ⟨some [t,f,t,f],.move (.s [t,t,t,t,t,t]),none⟩]) : CCode)) false true
def c53_b5 : CCode:=(fun (f t : Bool) => ((.seq (.seq c53_o30
 (.cond (.s [t,f,t,t,t,t]) .skip (.exit 8)))
 (.seq (.block 9 (.seq c53_o31
 (.seq (.block 10 c53_l4)
 (.seq c53_o34
 (.seq c53_o35
 (.seq c53_o36
 c53_o37))))))
 c53_o38)) : CCode)) false true
def c53_l5 : CCode:=(fun (f t : Bool) => (.loop [[f],[f,f,f],[t,f,f],[f,t,f],[t,t,f],[f,f,f,f],[t,f,f,f],[t,t,f,f],[f,f,t,f],[t,f,t,f]] c53_b5 : CCode)) false true
def c53_o39 : CCode:=(fun (f t : Bool) => (.trim [[t,f,f,f],[t,t,f,f]] (.ops [
  ⟨some [f,f,f,t,f,t,f],.move (.s [t,t,f,f]),none⟩,
  ⟨some [t,f,f,t,f,t,f],.move (.s [t,f,f,f]),none⟩,
  ⟨some [t,f],.move (.s [f,f,f,t,f,t,f]),none⟩,
  ⟨some [f,t],.move (.s [t,f,f,t,f,t,f]),none⟩,
  ⟨some [t,t],.move (.c (.bool t)),none⟩]) : CCode)) false true
def c53 : CFunc:=(fun (f t : Bool) => ({ params:=[[],[f]],results:=[.slot [t,f],.slot [f,t],.slot [t,t]],shared:=f,body:=(.seq c53_o0
 (.seq c53_o1
 (.seq c53_o2
 (.seq c53_o3
 (.seq (.seq c53_o4
 (.block 0 c53_l2))
 (.seq c53_o18
 (.seq c53_o19
 (.seq (.seq c53_o20
 (.block 6 c53_l3))
 (.seq (.seq c53_o25
 (.cond (.s [t,f,f,t,t,t]) (.seq c53_o26
 .ret) .skip))
 (.seq c53_o27
 (.seq c53_o28
 (.seq (.seq c53_o29
 (.block 8 c53_l5))
 (.seq c53_o39
 .ret))))))))))))) } : CFunc)) false true
def c57_o0 : CCode:=(fun (f t : Bool) => (.trim [[]] (.ops [
  ⟨some [f],.box none (.s []),none⟩,
  ⟨some [t],.move (.c (.bool f)),none⟩]) : CCode)) false true
def c57_o1 : CCode:=(fun (f t : Bool) => (.trim [[f]] (.ops [
  ⟨some [f,f],.fieldAddr 0 (.s [f]),none⟩,
  ⟨some [t,f],.load none (.s [f,f]),none⟩,
  ⟨some [f,t],.call f (.c (.func 60 [])) [(.s [t,f]),(.c (.int .i64 1)),(.c (.int .i64 3))],none⟩,
  ⟨some [t,t],.move (.s [f,t]),none⟩,
  ⟨some [f,f,f],.fieldAddr 1 (.s [f]),some ([t,t],t)⟩,
  ⟨some [t,f,f],.load none (.s [f,f,f]),some ([t,t],t)⟩,
  ⟨some [f,t,f],.fieldAddr 0 (.s [f]),some ([t,t],t)⟩,
  ⟨some [t,t,f],.load none (.s [f,t,f]),some ([t,t],t)⟩,
  ⟨some [f,f,t],.call f (.c (.func 87 [])) [(.s [t,f,f]),(.s [t,t,f])],some ([t,t],t)⟩,
  ⟨some [t,f,t],.pick (.s [t,t]) (.s [f,f,t]) (.c (.bool f)),none⟩,
  ⟨some [f,t,t],.move (.s [t,f,t]),none⟩,
  ⟨some [t,t,t],.fieldAddr 2 (.s [f]),some ([f,t,t],t)⟩,
  ⟨some [f,f,f,f],.load none (.s [t,t,t]),some ([f,t,t],t)⟩,
  ⟨some [t,f,f,f],.fieldAddr 0 (.s [f]),some ([f,t,t],t)⟩,
  ⟨some [f,t,f,f],.load none (.s [t,f,f,f]),some ([f,t,t],t)⟩,
  ⟨some [t,t,f,f],.call f (.c (.func 87 [])) [(.s [f,f,f,f]),(.s [f,t,f,f])],some ([f,t,t],t)⟩,
  ⟨some [f,f,t,f],.pick (.s [f,t,t]) (.s [t,t,f,f]) (.c (.bool f)),none⟩,
  ⟨some [t],.move (.s [f,f,t,f]),none⟩]) : CCode)) false true
def c57 : CFunc:=(fun (f t : Bool) => ({ params:=[[]],results:=[.slot [t]],shared:=f,body:=(.seq c57_o0
 (.seq c57_o1
 .ret)) } : CFunc)) false true
def c60_o0 : CCode:=(fun (f t : Bool) => (.trim [[],[f],[t]] (.ops [
  ⟨some [t,t],.move (.c (.bool f)),none⟩]) : CCode)) false true
def c60_o1 : CCode:=(fun (f t : Bool) => (.trim [[],[f],[t]] (.ops [
  ⟨some [f,f,f],.move (.s []),none⟩,
  ⟨some [t,f,f],.move (.s [f]),none⟩,
  ⟨some [f,t,f],.bin .geq (.s [f,f,f]) (.s [t,f,f]),none⟩,
  ⟨some [t,t,f],.move (.s [f,t,f]),none⟩,
  ⟨some [f,f,t],.move (.s []),some ([t,t,f],t)⟩,
  ⟨some [t,f,t],.move (.s [t]),some ([t,t,f],t)⟩,
  ⟨some [f,t,t],.bin .leq (.s [f,f,t]) (.s [t,f,t]),some ([t,t,f],t)⟩,
  ⟨some [t,t,t],.pick (.s [t,t,f]) (.s [f,t,t]) (.c (.bool f)),none⟩,
  ⟨some [t,t],.move (.s [t,t,t]),none⟩]) : CCode)) false true
def c60 : CFunc:=(fun (f t : Bool) => ({ params:=[[],[f],[t]],results:=[.slot [t,t]],shared:=f,body:=(.seq c60_o0
 (.seq c60_o1
 .ret)) } : CFunc)) false true
def c61_o0 : CCode:=(fun (f t : Bool) => (.trim [[],[f]] (.ops [
  ⟨some [t],.box none (.s []),none⟩,
  ⟨some [t,f],.move (.c (.nilp)),none⟩]) : CCode)) false true
def c61_o1 : CCode:=(fun (f t : Bool) => (.trim [[f],[t],[t,f]] (.ops [
  ⟨some [f,f,t],.makeMap none,none⟩,
  ⟨some [t,f,t],.build [.nils,.nilm,.nils] [(1,1,(.s [f,f,t]))],none⟩,
  ⟨some [f,t,t],.box none (.s [t,f,t]),none⟩,
  ⟨some [f,t],.alloc none [.nilp],none⟩,
  ⟨none,.store 1 (.s [f,t]) (.s [f,t,t]),none⟩]) : CCode)) false true
def c61_o2 : CCode:=(fun (f t : Bool) => (.trim [[f],[t],[t,f],[f,t]] (.ops [
  ⟨some [t,t,t],.fieldAddr 0 (.s [t]),none⟩,
  ⟨some [f,f,f,f],.load none (.s [t,t,t]),none⟩,
  ⟨some [t,f,f,f],.move (.s [f]),none⟩,
  ⟨some [f,t,f,f],.call f (.c (.func 88 [])) [(.s [f,f,f,f]),(.s [t,f,f,f])],none⟩]) : CCode)) false true
def c61_o3 : CCode:=(fun (f t : Bool) => (.trim [[t],[f,t],[t,t]] (.ops [
  ⟨some [f,f,t,f],.load (some 3) (.s [t]),none⟩,
  ⟨some [t,f,t,f],.move (.s [t,t]),none⟩,
  ⟨some [f,t,t,f],.call f (.c (.func 89 [])) [(.s [f,f,t,f]),(.s [t,f,t,f])],none⟩]) : CCode)) false true
def c61_o4 : CCode:=(fun (f t : Bool) => (.trim [[f,t],[t,t]] (.draw 0 [
  ⟨some [t,t,t,f],.load none (.s [f,t]),none⟩,
  ⟨some [f,f,f,t],.nilCheck (.s [t,t,t,f]),none⟩,
  ⟨some [t,f,f,t],.fieldAddr 1 (.s [f,f,f,t]),none⟩,
  ⟨some [f,t,f,t],.load none (.s [t,f,f,t]),none⟩,
  ⟨some [t,t,f,t],.move (.s [t,t]),none⟩,
  ⟨some [f,f,t,t],.load none (.s [f,t]),none⟩,
  ⟨some [t,f,t,t],.nilCheck (.s [f,f,t,t]),none⟩,
  ⟨some [f,t,t,t],.fieldAddr 0 (.s [t,f,t,t]),none⟩,
  ⟨some [t,t,t,t],.load none (.s [f,t,t,t]),none⟩,
  ⟨some [f,f,f,f,f],.len 1 (.s [t,t,t,t]),none⟩,
  ⟨none,.mapUpdate (.s) (.s [f,t,f,t]) (.s [t,t,f,t]) (.s [f,f,f,f,f]),none⟩]
  [(0,5),(3,5),(0,8),(3,8),(0,9),(3,9)] [[],[0],[0,1],[0,1,2],[],[],[5],[5,6],[5,6,7],[5,6,7,8],(r 10)]) : CCode)) false true
def c61_o5 : CCode:=(fun (f t : Bool) => (.trim [[f,t],[t,t]] (.draw 2 [
  ⟨some [t,f,f,f,f],.load none (.s [f,t]),none⟩,
  ⟨some [f,t,f,f,f],.load none (.s [f,t]),none⟩,
  ⟨some [t,t,f,f,f],.nilCheck (.s [f,t,f,f,f]),none⟩,
  ⟨some [f,f,t,f,f],.fieldAddr 0 (.s [t,t,f,f,f]),none⟩,
  ⟨some [t,f,t,f,f],.load none (.s [f,f,t,f,f]),none⟩,
  ⟨some [f,t,t,f,f],.move (.s [t,t]),none⟩,
  ⟨some [t,t,t,f,f],.buildSlice (some 0) 1 1 [.str []] [(0,1,(.s [f,t,t,f,f]))],none⟩,
  ⟨some [f,f,f,t,f],.append (some 1) 1 16 (.s [t,f,t,f,f]) (.s [t,t,t,f,f]),none⟩,
  ⟨some [t,f,f,t,f],.nilCheck (.s [t,f,f,f,f]),none⟩,
  ⟨some [f,t,f,t,f],.fieldAddr 0 (.s [t,f,f,t,f]),none⟩,
  ⟨none,.store 1 (.s [f,t,f,t,f]) (.s [f,f,f,t,f]),none⟩]
  [(0,1),(0,4),(0,6),(1,6),(4,6),(0,7)] [[],[],[1],[1,2],[1,2,3],[],[5],[1,2,3,4,5,6],(r 8),(r 9),(r 10)]) : CCode)) false true
def c61_r0 : CCode:=(fun (f t : Bool) => ((.block 1 (.seq c61_o3
 (.cond (.s [f,t,t,f]) (.seq c61_o4
 c61_o5) .skip))) : CCode)) false true
def c61_o6 : CCode:=(fun (f t : Bool) => (.trim [[t],[f,t],[t,t,f,f]] (.ops [
  ⟨some [t,t],.move (.s [t,t,f,f]),none⟩]) : CCode)) false true
def c61_o7 : CCode:=(fun (f t : Bool) => (.trim [[t],[f,t]] (.draw 1 [
  ⟨some [t,t,f,t,f],.load none (.s [f,t]),none⟩,
  ⟨some [f,f,t,t,f],.load none (.s [f,t]),none⟩,
  ⟨some [t,f,t,t,f],.nilCheck (.s [f,f,t,t,f]),none⟩,
  ⟨some [f,t,t,t,f],.fieldAddr 0 (.s [t,f,t,t,f]),none⟩,
  ⟨some [t,t,t,t,f],.load none (.s [f,t,t,t,f]),none⟩,
  ⟨some [f,f,f,f,t],.len 1 (.s [t,t,t,t,f]),none⟩,
  ⟨some [t,f,f,f,t],.makeSlice (some 0) 1 24 [.nils] (.s [f,f,f,f,t]),none⟩,
  ⟨some [f,t,f,f,t],.nilCheck (.s [t,t,f,t,f]),none⟩,
  ⟨some [t,t,f,f,t],.fieldAddr 2 (.s [f,t,f,f,t]),none⟩,
  ⟨none,.store 1 (.s [t,t,f,f,t]) (.s [t,f,f,f,t]),none⟩]
  [(0,1),(0,4),(0,5),(0,6)] [[],[],[1],[1,2],[1,2,3],[1,2,3,4],[1,2,3,4,5],(r 7),(r 8),(r 9)]) : CCode)) false true
def c61_o8 : CCode:=(fun (f t : Bool) => (.trim [[t],[f,t]] (.ops [
  ⟨some [f,f,t,f,t],.load none (.s [f,t]),none⟩,
  ⟨some [t,f,t,f,t],.nilCheck (.s [f,f,t,f,t]),none⟩,
  ⟨some [f,t,t,f,t],.fieldAddr 0 (.s [t,f,t,f,t]),none⟩,
  ⟨some [t,t,t,f,t],.load none (.s [f,t,t,f,t]),none⟩,
  ⟨some [f,f,f,t,t],.len 1 (.s [t,t,t,f,t]),none⟩,
  ⟨some [t,f,f,t,t],.move (.c (.int .i64 0)),none⟩]) : CCode)) false true
def c61_o9 : CCode:=(fun (f t : Bool) => (.trim [[t],[f,t],[t,t,t,f,t],[f,f,f,t,t],[t,f,f,t,t]] (.ops [
  ⟨some [f,t,f,t,t],.bin .lss (.s [t,f,f,t,t]) (.s [f,f,f,t,t]),none⟩]) : CCode)) false true
def c61_o10 : CCode:=(fun (f t : Bool) => (.trim [[t],[f,t],[t,t,t,f,t],[f,f,f,t,t],[t,f,f,t,t]] (.ops [
  ⟨some [t,t,f,t,t],.move (.s [t,f,f,t,t]),none⟩,
  ⟨some [f,f,t,t,t],.idxSl 1 (.s [t,t,t,f,t]) (.s [t,f,f,t,t]),none⟩,
  ⟨some [t,f,t,t,t],.load none (.s [f,f,t,t,t]),none⟩,
  ⟨some [f,f,f],.move (.s [t,t,f,t,t]),none⟩,
  ⟨some [t,f,f],.move (.s [t,f,t,t,t]),none⟩]) : CCode)) false true
def c61_o11 : CCode:=(fun (f t : Bool) => (.trim [[t],[f,t],[f,f,f],[t,f,f],[t,t,t,f,t],[f,f,f,t,t],[t,f,f,t,t]] (.ops [
  ⟨some [f,t,t,t,t],.load none (.s [f,t]),none⟩,
  ⟨some [t,t,t,t,t],.nilCheck (.s [f,t,t,t,t]),none⟩,
  ⟨some [f,f,f,f,f,f],.fieldAddr 0 (.s [t,t,t,t,t]),none⟩,
  ⟨some [t,f,f,f,f,f],.load none (.s [f,f,f,f,f,f]),none⟩,
  ⟨some [f,t,f,f,f,f],.len 1 (.s [t,f,f,f,f,f]),none⟩,
  ⟨some [t,t,f,f,f,f],.move (.c (.int .i64 0)),none⟩]) : CCode)) false true
def c61_o12 : CCode:=(fun (f t : Bool) => (.trim [[t],[f,t],[f,f,f],[t,f,f],[t,t,t,f,t],[f,f,f,t,t],[t,f,f,t,t],[t,f,f,f,f,f],[f,t,f,f,f,f],[t,t,f,f,f,f]] (.ops [
  ⟨some [f,f,t,f,f,f],.bin .lss (.s [t,t,f,f,f,f]) (.s [f,t,f,f,f,f]),none⟩]) : CCode)) false true
def c61_o13 : CCode:=(fun (f t : Bool) => (.trim [[t],[f,t],[f,f,f],[t,f,f],[t,t,t,f,t],[f,f,f,t,t],[t,f,f,t,t],[t,f,f,f,f,f],[f,t,f,f,f,f],[t,t,f,f,f,f]] (.ops [
  ⟨some [t,f,t,f,f,f],.move (.s [t,t,f,f,f,f]),none⟩,
  ⟨some [f,t,t,f,f,f],.idxSl 1 (.s [t,f,f,f,f,f]) (.s [t,t,f,f,f,f]),none⟩,
  ⟨some [t,t,t,f,f,f],.load none (.s [f,t,t,f,f,f]),none⟩,
  ⟨some [f,t,f],.move (.s [t,f,t,f,f,f]),none⟩,
  ⟨some [t,t,f],.move (.s [t,t,t,f,f,f]),none⟩]) : CCode)) false true
def c61_o14 : CCode:=(fun (f t : Bool) => (.trim [[t],[f,t],[f,f,f],[t,f,f],[f,t,f],[t,t,f],[t,t,t,f,t],[f,f,f,t,t],[t,f,f,t,t],[t,f,f,f,f,f],[f,t,f,f,f,f],[t,t,f,f,f,f]] (.ops [
  ⟨some [f,f,f,t,f,f],.load (some 3) (.s [t]),none⟩,
  ⟨some [t,f,f,t,f,f],.move (.s [t,f,f]),none⟩,
  ⟨some [f,t,f,t,f,f],.move (.s [t,t,f]),none⟩,
  ⟨some [t,t,f,t,f,f],.call f (.c (.func 90 [])) [(.s [f,f,f,t,f,f]),(.s [t,f,f,t,f,f]),(.s [f,t,f,t,f,f])],none⟩]) : CCode)) false true
def c61_o15 : CCode:=(fun (f t : Bool) => (.trim [[t],[f,t],[f,f,f],[t,f,f],[f,t,f],[t,t,t,f,t],[f,f,f,t,t],[t,f,f,t,t],[t,f,f,f,f,f],[f,t,f,f,f,f],[t,t,f,f,f,f]] (.draw 2 [
  ⟨some [f,f,t,t,f,f],.load none (.s [f,t]),none⟩,
  ⟨some [t,f,t,t,f,f],.nilCheck (.s [f,f,t,t,f,f]),none⟩,
  ⟨some [f,t,t,t,f,f],.fieldAddr 2 (.s [t,f,t,t,f,f]),none⟩,
  ⟨some [t,t,t,t,f,f],.load none (.s [f,t,t,t,f,f]),none⟩,
  ⟨some [f,f,f,f,t,f],.move (.s [f,f,f]),none⟩,
  ⟨some [t,f,f,f,t,f],.load none (.s [f,t]),none⟩,
  ⟨some [f,t,f,f,t,f],.nilCheck (.s [t,f,f,f,t,f]),none⟩,
  ⟨some [t,t,f,f,t,f],.fieldAddr 2 (.s [f,t,f,f,t,f]),none⟩,
  ⟨some [f,f,t,f,t,f],.load none (.s [t,t,f,f,t,f]),none⟩,
  ⟨some [t,f,t,f,t,f],.move (.s [f,f,f]),none⟩,
  ⟨some [f,t,t,f,t,f],.idxSl 1 (.s [f,f,t,f,t,f]) (.s [t,f,t,f,t,f]),none⟩,
  ⟨some [t,t,t,f,t,f],.load none (.s [f,t,t,f,t,f]),none⟩,
  ⟨some [f,f,f,t,t,f],.move (.s [f,t,f]),none⟩,
  ⟨some [t,f,f,t,t,f],.buildSlice (some 0) 1 1 [.int .i64 0] [(0,1,(.s [f,f,f,t,t,f]))],none⟩,
  ⟨some [f,t,f,t,t,f],.append (some 1) 1 8 (.s [t,t,t,f,t,f]) (.s [t,f,f,t,t,f]),none⟩,
  ⟨some [t,t,f,t,t,f],.idxSl 1 (.s [t,t,t,t,f,f]) (.s [f,f,f,f,t,f]),none⟩,
  ⟨none,.store 1 (.s [t,t,f,t,t,f]) (.s [f,t,f,t,t,f]),none⟩]
  [(0,5),(3,5),(0,8),(3,8),(0,11),(3,11),(0,13),(3,13),(5,13),(8,13),(11,13),(0,14),(3,14)] [[],[0],[0,1],[0,1,2],[],[],[5],[5,6],[5,6,7],[],[5,6,7,8,9],[5,6,7,8,9,10],[],[12],[5,6,7,8,9,10,11,12,13],(r 15),(r 16)]) : CCode)) false true
def c61_o16 : CCode:=(fun (f t : Bool) => (.trim [[t],[f,t],[f,f,f],[t,f,f],[t,t,t,f,t],[f,f,f,t,t],[t,f,f,t,t],[t,f,f,f,f,f],[f,t,f,f,f,f],[t,t,f,f,f,f]] (.ops [
  ⟨some [f,f,t,t,t,f],.bin .add (.s [t,t,f,f,f,f]) (.c (.int .i64 1)),none⟩,
  ⟨some [t,t,f,f,f,f],.move (.s [f,f,t,t,t,f]),none⟩]) : CCode)) false true
def c61_b1 : CCode:=(fun (f t : Bool) => ((.seq c61_o12
 (.seq (.cond (.s [f,f,t,f,f,f]) .skip (.exit 4))
 (.seq (.block 5 (.seq c61_o13
 (.seq c61_o14
 (.cond (.s [t,t,f,t,f,f]) c61_o15 .skip))))
 c61_o16))) : CCode)) false true
def c61_l1 : CCode:=(fun (f t : Bool) => (.loop [[t],[f,t],[f,f,f],[t,f,f],[t,t,t,f,t],[f,f,f,t,t],[t,f,f,t,t],[t,f,f,f,f,f],[f,t,f,f,f,f],[t,t,f,f,f,f]] c61_b1 : CCode)) false true
def c61_o17 : CCode:=(fun (f t : Bool) => (.trim [[t],[f,t],[t,t,t,f,t],[f,f,f,t,t],[t,f,f,t,t]] (.ops [
  ⟨some [t,f,t,t,t,f],.bin .add (.s [t,f,f,t,t]) (.c (.int .i64 1)),none⟩,
  ⟨some [t,f,f,t,t],.move (.s [t,f,t,t,t,f]),none⟩]) : CCode)) false true
def c61_b2 : CCode:=(fun (f t : Bool) => ((.seq c61_o9
 (.seq (.cond (.s [f,t,f,t,t]) .skip (.exit 2))
 (.seq (.block 3 (.seq c61_o10
 (.seq c61_o11
 (.block 4 c61_l1))))
 c61_o17))) : CCode)) false true
def c61_l2 : CCode:=(fun (f t : Bool) => (.loop [[t],[f,t],[t,t,t,f,t],[f,f,f,t,t],[t,f,f,t,t]] c61_b2 : CCode)) false true
def c61_o18 : CCode:=(fun (f t : Bool) => (.trim [[f,t]] (.ops [
  ⟨some [f,t,t,t,t,f],.load none (.s [f,t]),none⟩,
  ⟨some [t,f],.move (.s [f,t,t,t,t,f]),none⟩]) : CCode)) false true
def c61 : CFunc:=(fun (f t : Bool) => ({ params:=[[],[f]],results:=[.slot [t,f]],shared:=f,body:=(.seq c61_o0
 (.seq c61_o1
 (.seq (.seq c61_o2
 (.block 0 (.range (.s [f,t,f,f]) [[t,t,f,f]] c61_o6 c61_r0)))
 (.seq c61_o7
 (.seq (.seq c61_o8
 (.block 2 c61_l2))
 (.seq c61_o18
 .ret)))))) } : CFunc)) false true
def c62_o0 : CCode:=(fun (f t : Bool) => (.trim [[],[f]] (.ops [
  ⟨some [t,f],.move (.c (.nils)),none⟩,
  ⟨some [f,t],.move (.c (.bool f)),none⟩]) : CCode)) false true
def c62_o1 : CCode:=(fun (f t : Bool) => (.trim [[],[f]] (.ops [
  ⟨some [t,t],.move (.c (.nils)),none⟩]) : CCode)) false true
def c62_o2 : CCode:=(fun (f t : Bool) => (.trim [[],[f],[t,t]] (.ops [
  ⟨some [f,t,f,f],.move (.s [f]),none⟩,
  ⟨some [t,t,f,f],.move (.c (.int .i64 0)),none⟩]) : CCode)) false true
def c62_o3 : CCode:=(fun (f t : Bool) => (.trim [[],[t,t],[f,t,f,f],[t,t,f,f]] (.ops [
  ⟨some [f,f,t,f],.bin .lss (.s [t,t,f,f]) (.s [f,t,f,f]),none⟩]) : CCode)) false true
def c62_o4 : CCode:=(fun (f t : Bool) => (.trim [[],[t,t],[f,t,f,f],[t,t,f,f]] (.ops [
  ⟨some [t,f,t,f],.move (.s [t,t,f,f]),none⟩,
  ⟨some [f,f,f],.move (.s [t,f,t,f]),none⟩]) : CCode)) false true
def c62_o5 : CCode:=(fun (f t : Bool) => (.trim [[],[t,t],[f,f,f],[f,t,f,f],[t,t,f,f]] (.ops [
  ⟨some [f,t,t,f],.buildSlice none 1 1 [.int .i64 0] [(0,1,(.c (.int .i64 1)))],none⟩,
  ⟨some [t,t,t,f],.move (.s []),none⟩,
  ⟨some [f,f,f,t],.nilCheck (.s [t,t,t,f]),none⟩,
  ⟨some [t,f,f,t],.fieldAddr 0 (.s [f,f,f,t]),none⟩,
  ⟨some [f,t,f,t],.load none (.s [t,f,f,t]),none⟩,
  ⟨some [t,t,f,t],.len 1 (.s [f,t,f,t]),none⟩,
  ⟨some [f,f,t,t],.call f (.c (.func 91 [])) [(.s [f,t,t,f]),(.s [t,t,f,t])],none⟩,
  ⟨some [t,f,f],.move (.s [f,f,t,t]),none⟩]) : CCode)) false true
def c62_o6 : CCode:=(fun (f t : Bool) => (.trim [[],[t,t],[f,f,f],[t,f,f],[f,t,f,f],[t,t,f,f]] (.ops [
  ⟨some [t,f,t,t],.move (.s [t,f,f]),none⟩,
  ⟨some [f,t,t,t],.len 1 (.s [t,f,t,t]),none⟩,
  ⟨some [t,t,t,t],.move (.c (.int .i64 0)),none⟩]) : CCode)) false true
def c62_o7 : CCode:=(fun (f t : Bool) => (.trim [[],[t,t],[f,f,f],[t,f,f],[f,t,f,f],[t,t,f,f],[f,t,t,t],[t,t,t,t]] (.ops [
  ⟨some [f,f,f,f,f],.bin .lss (.s [t,t,t,t]) (.s [f,t,t,t]),none⟩]) : CCode)) false true
def c62_o8 : CCode:=(fun (f t : Bool) => (.trim [[],[t,t],[f,f,f],[t,f,f],[f,t,f,f],[t,t,f,f],[f,t,t,t],[t,t,t,t]] (.ops [
  ⟨some [t,f,f,f,f],.move (.s [t,t,t,t]),none⟩,
  ⟨some [f,t,f],.move (.s [t,f,f,f,f]),none⟩]) : CCode)) false true
def c62_o9 : CCode:=(fun (f t : Bool) => (.trim [[],[t,t],[f,f,f],[t,f,f],[f,t,f],[f,t,f,f],[t,t,f,f],[f,t,t,t],[t,t,t,t]] (.ops [
  ⟨some [f,t,f,f,f],.move (.s [f,f,f]),none⟩,
  ⟨some [t,t,f,f,f],.bin .eql (.s [f,t,f,f,f]) (.c (.int .i64 0)),none⟩]) : CCode)) false true
def c62_o10 : CCode:=(fun (f t : Bool) => (.trim [[],[t,t],[f,f,f],[t,f,f],[f,t,f],[f,t,f,f],[t,t,f,f],[f,t,t,t],[t,t,t,t]] (.ops [
  ⟨some [t,t,f],.move (.c (.nils)),none⟩]) : CCode)) false true
def c62_o11 : CCode:=(fun (f t : Bool) => (.trim [[],[t,t],[f,f,f],[t,f,f],[f,t,f],[t,t,f],[f,t,f,f],[t,t,f,f],[f,t,t,t],[t,t,t,t]] (.ops [
  ⟨some [f,f,t,f,f],.move (.s []),none⟩,
  ⟨some [t,f,t,f,f],.nilCheck (.s [f,f,t,f,f]),none⟩,
  ⟨some [f,t,t,f,f],.fieldAddr 2 (.s [t,f,t,f,f]),none⟩,
  ⟨some [t,t,t,f,f],.load none (.s [f,t,t,f,f]),none⟩,
  ⟨some [f,f,f,t,f],.move (.s [f,t,f]),none⟩,
  ⟨some [t,f,f,t,f],.idxSl 1 (.s [t,t,t,f,f]) (.s [f,f,f,t,f]),none⟩,
  ⟨some [f,t,f,t,f],.load none (.s [t,f,f,t,f]),none⟩,
  ⟨some [t,t,f,t,f],.len 1 (.s [f,t,f,t,f]),none⟩,
  ⟨some [f,f,t,t,f],.move (.c (.int .i64 0)),none⟩]) : CCode)) false true
def c62_o12 : CCode:=(fun (f t : Bool) => (.trim [[],[t,t],[f,f,f],[t,f,f],[f,t,f],[t,t,f],[f,t,f,f],[t,t,f,f],[f,t,t,t],[t,t,t,t],[f,t,f,t,f],[t,t,f,t,f],[f,f,t,t,f]] (.ops [
  ⟨some [t,f,t,t,f],.bin .lss (.s [f,f,t,t,f]) (.s [t,t,f,t,f]),none⟩]) : CCode)) false true
def c62_o13 : CCode:=(fun (f t : Bool) => (.trim [[],[t,t],[f,f,f],[t,f,f],[f,t,f],[t,t,f],[f,t,f,f],[t,t,f,f],[f,t,t,t],[t,t,t,t],[f,t,f,t,f],[t,t,f,t,f],[f,f,t,t,f]] (.ops [
  ⟨some [f,t,t,t,f],.idxSl 1 (.s [f,t,f,t,f]) (.s [f,f,t,t,f]),none⟩,
  ⟨some [t,t,t,t,f],.load none (.s [f,t,t,t,f]),none⟩,
  ⟨some [t,f,t],.move (.s [t,t,t,t,f]),none⟩]) : CCode)) false true
def c62_o14 : CCode:=(fun (f t : Bool) => (.trim [[],[t,t],[f,f,f],[t,f,f],[f,t,f],[t,t,f],[t,f,t],[f,t,f,f],[t,t,f,f],[f,t,t,t],[t,t,t,t],[f,t,f,t,f],[t,t,f,t,f],[f,f,t,t,f]] (.ops [
  ⟨some [f,f,f,f,t],.move (.s [t,t,f]),none⟩,
  ⟨some [t,f,f,f,t],.move (.s [t,t]),none⟩,
  ⟨some [f,t,f,f,t],.move (.s [f,f,f]),none⟩,
  ⟨some [t,t,f,f,t],.bin .sub (.s [f,t,f,f,t]) (.c (.int .i64 1)),none⟩,
  ⟨some [f,f,t,f,t],.idxSl 1 (.s [t,f,f,f,t]) (.s [t,t,f,f,t]),none⟩,
  ⟨some [t,f,t,f,t],.load none (.s [f,f,t,f,t]),none⟩,
  ⟨some [f,t,t,f,t],.move (.s [t,f,t]),none⟩,
  ⟨some [t,t,t,f,t],.idxSl 1 (.s [t,f,t,f,t]) (.s [f,t,t,f,t]),none⟩,
  ⟨some [f,f,f,t,t],.load none (.s [t,t,t,f,t]),none⟩,
  ⟨some [t,f,f,t,t],.buildSlice none 1 1 [.int .i64 0] [(0,1,(.s [f,f,f,t,t]))],none⟩,
  ⟨some [f,t,f,t,t],.append none 1 8 (.s [f,f,f,f,t]) (.s [t,f,f,t,t]),none⟩,
  ⟨some [t,t,f],.move (.s [f,t,f,t,t]),none⟩]) : CCode)) false true
def c62_o15 : CCode:=(fun (f t : Bool) => (.trim [[],[t,t],[f,f,f],[t,f,f],[f,t,f],[t,t,f],[f,t,f,f],[t,t,f,f],[f,t,t,t],[t,t,t,t],[f,t,f,t,f],[t,t,f,t,f],[f,f,t,t,f]] (.ops [
  ⟨some [t,t,f,t,t],.bin .add (.s [f,f,t,t,f]) (.c (.int .i64 1)),none⟩,
  ⟨some [f,f,t,t,f],.move (.s [t,t,f,t,t]),none⟩]) : CCode)) false true
def c62_b0 : CCode:=(fun (f t : Bool) => ((.seq c62_o12
 (.seq (.cond (.s [t,f,t,t,f]) .skip (.exit 4))
 (.seq (.block 5 (.seq c62_o13
 c62_o14))
 c62_o15))) : CCode)) false true
def c62_l0 : CCode:=(fun (f t : Bool) => (.loop [[],[t,t],[f,f,f],[t,f,f],[f,t,f],[t,t,f],[f,t,f,f],[t,t,f,f],[f,t,t,t],[t,t,t,t],[f,t,f,t,f],[t,t,f,t,f],[f,f,t,t,f]] c62_b0 : CCode)) false true
def c62_o16 : CCode:=(fun (f t : Bool) => (.trim [[],[t,t],[f,f,f],[t,f,f],[f,t,f],[t,t,f],[f,t,f,f],[t,t,f,f],[f,t,t,t],[t,t,t,t]] (.ops [
  ⟨some [t,f,t,t,t],.move (.s [t,t,f]),none⟩,
  ⟨some [f,t,t,t,t],.call f (.c (.func 63 [])) [(.s [t,f,t,t,t]),(.c (.int .i64 1152921504606846976))],none⟩,
  ⟨some [f,f,t,t,t],.move (.s [f,t,t,t,t]),none⟩,
  ⟨some [t,t,t,t,t],.extract 0 (.s [f,f,t,t,t]),none⟩,
  ⟨some [f,f,f,f,f,f],.extract 1 (.s [f,f,t,t,t]),none⟩,
  ⟨some [f,t,t],.move (.s [t,t,t,t,t]),none⟩,
  ⟨some [t,t,t],.move (.s [f,f,f,f,f,f]),none⟩]) : CCode)) false true
def c62_o17 : CCode:=(fun (f t : Bool) => (.trim [[],[t,t],[f,f,f],[t,f,f],[f,t,f],[f,t,t],[t,t,t],[f,t,f,f],[t,t,f,f],[f,t,t,t],[t,t,t,t]] (.ops [
  ⟨some [t,f,f,f,f,f],.move (.s [t,t,t]),none⟩,
  ⟨some [f,t,f,f,f,f],.un .not (.s [t,f,f,f,f,f]),none⟩]) : CCode)) false true
def c62_o18 : CCode:=(fun (f t : Bool) => (.trim [] (.ops [
  ⟨some [t,f],.move (.c (.nils)),none⟩,
  ⟨some [f,t],.move (.c (.bool f)),none⟩]) : CCode)) false true
def c62_o19 : CCode:=(fun (f t : Bool) => (.trim [[],[t,t],[f,f,f],[t,f,f],[f,t,f],[f,t,t],[f,t,f,f],[t,t,f,f],[f,t,t,t],[t,t,t,t]] (.ops [
  ⟨some [t,t,f,f,f,f],.move (.s [t,f,f]),none⟩,
  ⟨some [f,f,t,f,f,f],.move (.s [f,t,f]),none⟩,
  ⟨some [t,f,t,f,f,f],.move (.s [f,t,t]),none⟩,
  ⟨some [f,t,t,f,f,f],.idxSl 1 (.s [t,t,f,f,f,f]) (.s [f,f,t,f,f,f]),none⟩,
  ⟨none,.store 1 (.s [f,t,t,f,f,f]) (.s [t,f,t,f,f,f]),none⟩]) : CCode)) false true
def c62_o20 : CCode:=(fun (f t : Bool) => (.trim [[],[t,t],[f,f,f],[t,f,f],[f,t,f,f],[t,t,f,f],[f,t,t,t],[t,t,t,t]] (.ops [
  ⟨some [t,t,t,f,f,f],.bin .add (.s [t,t,t,t]) (.c (.int .i64 1)),none⟩,
  ⟨some [t,t,t,t],.move (.s [t,t,t,f,f,f]),none⟩]) : CCode)) false true
def c62_b1 : CCode:=(fun (f t : Bool) => ((.seq c62_o7
 (.seq (.cond (.s [f,f,f,f,f]) .skip (.exit 2))
 (.seq (.block 3 (.seq c62_o8
 (.seq (.seq c62_o9
 (.cond (.s [t,t,f,f,f]) (.exit 2) .skip))
 (.seq c62_o10
 (.seq (.seq c62_o11
 (.block 4 c62_l0))
 (.seq c62_o16
 (.seq (.seq c62_o17
 (.cond (.s [f,t,f,f,f,f]) (.seq c62_o18
 .ret) .skip))
 c62_o19)))))))
 c62_o20))) : CCode)) false true
def c62_l1 : CCode:=(fun (f t : Bool) => (.loop [[],[t,t],[f,f,f],[t,f,f],[f,t,f,f],[t,t,f,f],[f,t,t,t],[t,t,t,t]] c62_b1 : CCode)) false true
def c62_o21 : CCode:=(fun (f t : Bool) => (.trim [[],[t,t],[t,f,f],[f,t,f,f],[t,t,f,f]] (.ops [
  ⟨some [t,f,f,t,f,f],.move (.s [t,f,f]),none⟩,
  ⟨some [f,t,f,t,f,f],.call f (.c (.func 63 [])) [(.s [t,f,f,t,f,f]),(.c (.int .i64 1152921504606846976))],none⟩,
  ⟨some [f,f,f,t,f,f],.move (.s [f,t,f,t,f,f]),none⟩,
  ⟨some [t,t,f,t,f,f],.extract 0 (.s [f,f,f,t,f,f]),none⟩,
  ⟨some [f,f,t,t,f,f],.extract 1 (.s [f,f,f,t,f,f]),none⟩,
  ⟨some [f,f,f,f],.move (.s [t,t,f,t,f,f]),none⟩,
  ⟨some [t,f,f,f],.move (.s [f,f,t,t,f,f]),none⟩]) : CCode)) false true
def c62_o22 : CCode:=(fun (f t : Bool) => (.trim [[],[t,t],[t,f,f],[t,f,f,f],[f,t,f,f],[t,t,f,f]] (.ops [
  ⟨some [t,f,t,t,f,f],.move (.s [t,f,f,f]),none⟩,
  ⟨some [f,t,t,t,f,f],.un .not (.s [t,f,t,t,f,f]),none⟩]) : CCode)) false true
def c62_o23 : CCode:=(fun (f t : Bool) => (.trim [] (.ops [
  ⟨some [t,f],.move (.c (.nils)),none⟩,
  ⟨some [f,t],.move (.c (.bool f)),none⟩]) : CCode)) false true
def c62_o24 : CCode:=(fun (f t : Bool) => (.trim [[],[t,t],[t,f,f],[f,t,f,f],[t,t,f,f]] (.ops [
  ⟨some [t,t,t,t,f,f],.move (.s [t,t]),none⟩,
  ⟨some [f,f,f,f,t,f],.move (.s [t,f,f]),none⟩,
  ⟨some [t,f,f,f,t,f],.buildSlice none 1 1 [.nils] [(0,1,(.s [f,f,f,f,t,f]))],none⟩,
  ⟨some [f,t,f,f,t,f],.append none 1 24 (.s [t,t,t,t,f,f]) (.s [t,f,f,f,t,f]),none⟩,
  ⟨some [t,t],.move (.s [f,t,f,f,t,f]),none⟩]) : CCode)) false true
def c62_o25 : CCode:=(fun (f t : Bool) => (.trim [[],[t,t],[f,t,f,f],[t,t,f,f]] (.ops [
  ⟨some [t,t,f,f,t,f],.bin .add (.s [t,t,f,f]) (.c (.int .i64 1)),none⟩,
  ⟨some [t,t,f,f],.move (.s [t,t,f,f,t,f]),none⟩]) : CCode)) false true
def c62_b2 : CCode:=(fun (f t : Bool) => ((.seq c62_o3
 (.seq (.cond (.s [f,f,t,f]) .skip (.exit 0))
 (.seq (.block 1 (.seq c62_o4
 (.seq c62_o5
 (.seq (.seq c62_o6
 (.block 2 c62_l1))
 (.seq (.seq c62_o21
 (.seq c62_o22
 (.cond (.s [f,t,t,t,f,f]) (.seq c62_o23
 .ret) .skip)))
 c62_o24)))))
 c62_o25))) : CCode)) false true
def c62_l2 : CCode:=(fun (f t : Bool) => (.loop [[],[t,t],[f,t,f,f],[t,t,f,f]] c62_b2 : CCode)) false true
def c62_o26 : CCode:=(fun (f t : Bool) => (.trim [[t,t]] (.ops [
  ⟨some [f,f,t,f,t,f],.move (.s [t,t]),none⟩,
  ⟨some [t,f],.move (.s [f,f,t,f,t,f]),none⟩,
  ⟨some [f,t],.move (.c (.bool t)),none⟩]) : CCode)) false true
def c62 : CFunc:=(fun (f t : Bool) => ({ params:=[[],[f]],results:=[.slot [t,f],.slot [f,t]],shared:=f,body:=(.seq c62_o0
 (.seq c62_o1
 (.seq (.seq c62_o2
 (.block 0 c62_l2))
 (.seq c62_o26
 .ret)))) } : CFunc)) false true
def c63_o0 : CCode:=(fun (f t : Bool) => (.trim [[],[f]] (.ops [
  ⟨some [t,f],.move (.c (.int .i64 0)),none⟩,
  ⟨some [f,t],.move (.c (.bool f)),none⟩]) : CCode)) false true
def c63_o1 : CCode:=(fun (f t : Bool) => (.trim [[],[f]] (.ops [
  ⟨some [t,t],.move (.c (.int .i64 0)),none⟩]) : CCode)) false true
def c63_o2 : CCode:=(fun (f t : Bool) => (.trim [[],[f],[t,t]] (.ops [
  ⟨some [f,t,f],.move (.s []),none⟩,
  ⟨some [t,t,f],.len 1 (.s [f,t,f]),none⟩,
  ⟨some [f,f,t],.move (.c (.int .i64 0)),none⟩]) : CCode)) false true
def c63_o3 : CCode:=(fun (f t : Bool) => (.trim [[f],[t,t],[f,t,f],[t,t,f],[f,f,t]] (.ops [
  ⟨some [t,f,t],.bin .lss (.s [f,f,t]) (.s [t,t,f]),none⟩]) : CCode)) false true
def c63_o4 : CCode:=(fun (f t : Bool) => (.trim [[f],[t,t],[f,t,f],[t,t,f],[f,f,t]] (.ops [
  ⟨some [f,t,t],.idxSl 1 (.s [f,t,f]) (.s [f,f,t]),none⟩,
  ⟨some [t,t,t],.load none (.s [f,t,t]),none⟩,
  ⟨some [t,f,f],.move (.s [t,t,t]),none⟩]) : CCode)) false true
def c63_o5 : CCode:=(fun (f t : Bool) => (.trim [[f],[t,t],[t,f,f],[f,t,f],[t,t,f],[f,f,t]] (.ops [
  ⟨some [f,f,f,f],.move (.s [t,f,f]),none⟩,
  ⟨some [t,f,f,f],.move (.s [f]),none⟩,
  ⟨some [f,t,f,f],.move (.s [t,t]),none⟩,
  ⟨some [t,t,f,f],.bin .sub (.s [t,f,f,f]) (.s [f,t,f,f]),none⟩,
  ⟨some [f,f,t,f],.bin .gtr (.s [f,f,f,f]) (.s [t,t,f,f]),none⟩]) : CCode)) false true
def c63_o6 : CCode:=(fun (f t : Bool) => (.trim [] (.ops [
  ⟨some [t,f],.move (.c (.int .i64 0)),none⟩,
  ⟨some [f,t],.move (.c (.bool f)),none⟩]) : CCode)) false true
def c63_o7 : CCode:=(fun (f t : Bool) => (.trim [[f],[t,t],[t,f,f],[f,t,f],[t,t,f],[f,f,t]] (.ops [
  ⟨some [t,f,t,f],.move (.s [t,t]),none⟩,
  ⟨some [f,t,t,f],.move (.s [t,f,f]),none⟩,
  ⟨some [t,t,t,f],.bin .add (.s [t,f,t,f]) (.s [f,t,t,f]),none⟩,
  ⟨some [t,t],.move (.s [t,t,t,f]),none⟩]) : CCode)) false true
def c63_o8 : CCode:=(fun (f t : Bool) => (.trim [[f],[t,t],[f,t,f],[t,t,f],[f,f,t]] (.ops [
  ⟨some [f,f,f,t],.bin .add (.s [f,f,t]) (.c (.int .i64 1)),none⟩,
  ⟨some [f,f,t],.move (.s [f,f,f,t]),none⟩]) : CCode)) false true
def c63_b0 : CCode:=(fun (f t : Bool) => ((.seq c63_o3
 (.seq (.cond (.s [t,f,t]) .skip (.exit 0))
 (.seq (.block 1 (.seq c63_o4
 (.seq (.seq c63_o5
 (.cond (.s [f,f,t,f]) (.seq c63_o6
 .ret) .skip))
 c63_o7)))
 c63_o8))) : CCode)) false true
def c63_l0 : CCode:=(fun (f t : Bool) => (.loop [[f],[t,t],[f,t,f],[t,t,f],[f,f,t]] c63_b0 : CCode)) false true
def c63_o9 : CCode:=(fun (f t : Bool) => (.trim [[t,t]] (.ops [
  ⟨some [t,f,f,t],.move (.s [t,t]),none⟩,
  ⟨some [t,f],.move (.s [t,f,f,t]),none⟩,
  ⟨some [f,t],.move (.c (.bool t)),none⟩]) : CCode)) false true
def c63 : CFunc:=(fun (f t : Bool) => ({ params:=[[],[f]],results:=[.slot [t,f],.slot [f,t]],shared:=f,body:=(.seq c63_o0
 (.seq c63_o1
 (.seq (.seq c63_o2
 (.block 0 c63_l0))
 (.seq c63_o9
 .ret)))) } : CFunc)) false true
def c64_o0 : CCode:=(fun (f t : Bool) => (.trim [[],[f]] (.ops [
  ⟨some [t,f],.move (.c (.bool f)),none⟩]) : CCode)) false true
def c64_o1 : CCode:=(fun (f t : Bool) => (.trim [[],[f]] (.ops [
  ⟨some [t,t],.move (.s []),none⟩,
  ⟨some [f,f,f],.len 1 (.s [t,t]),none⟩,
  ⟨some [t,f,f],.move (.s [f]),none⟩,
  ⟨some [f,t,f],.len 1 (.s [t,f,f]),none⟩,
  ⟨some [t,t,f],.bin .neq (.s [f,f,f]) (.s [f,t,f]),none⟩]) : CCode)) false true
def c64_o2 : CCode:=(fun (f t : Bool) => (.trim [] (.ops [
  ⟨some [t,f],.move (.c (.bool f)),none⟩]) : CCode)) false true
def c64_o3 : CCode:=(fun (f t : Bool) => (.trim [[],[f]] (.ops [
  ⟨some [f,t],.move (.c (.int .i64 0)),none⟩]) : CCode)) false true
def c64_o4 : CCode:=(fun (f t : Bool) => (.trim [[],[f],[f,t]] (.ops [
  ⟨some [f,f,t],.move (.s [f,t]),none⟩,
  ⟨some [t,f,t],.move (.s []),none⟩,
  ⟨some [f,t,t],.len 1 (.s [t,f,t]),none⟩,
  ⟨some [t,t,t],.bin .lss (.s [f,f,t]) (.s [f,t,t]),none⟩]) : CCode)) false true
def c64_o5 : CCode:=(fun (f t : Bool) => (.trim [[],[f],[f,t]] (.draw 0 [
  ⟨some [f,t,f,f],.move (.s []),none⟩,
  ⟨some [t,t,f,f],.move (.s [f,t]),none⟩,
  ⟨some [f,f,t,f],.idxSl 1 (.s [f,t,f,f]) (.s [t,t,f,f]),none⟩,
  ⟨some [t,f,t,f],.load none (.s [f,f,t,f]),none⟩,
  ⟨some [f,t,t,f],.move (.s [f]),none⟩,
  ⟨some [t,t,t,f],.move (.s [f,t]),none⟩,
  ⟨some [f,f,f,t],.idxSl 1 (.s [f,t,t,f]) (.s [t,t,t,f]),none⟩,
  ⟨some [t,f,f,t],.load none (.s [f,f,f,t]),none⟩,
  ⟨some [f,t,f,t],.bin .neq (.s [t,f,t,f]) (.s [t,f,f,t]),none⟩]
  [(3,7)] [[],[],[0,1],[0,1,2],[],[],[4,5],[4,5,6],(r 8)]) : CCode)) false true
def c64_o6 : CCode:=(fun (f t : Bool) => (.trim [] (.ops [
  ⟨some [t,f],.move (.c (.bool f)),none⟩]) : CCode)) false true
def c64_o7 : CCode:=(fun (f t : Bool) => (.trim [[],[f],[f,t]] (.ops [
  ⟨some [f,f,f,f],.move (.s [f,t]),none⟩,
  ⟨some [t,f,f,f],.bin .add (.s [f,f,f,f]) (.c (.int .i64 1)),none⟩,
  ⟨some [f,t],.move (.s [t,f,f,f]),none⟩]) : CCode)) false true
def c64_b0 : CCode:=(fun (f t : Bool) => ((.seq (.seq c64_o4
 (.cond (.s [t,t,t]) .skip (.exit 0)))
 (.seq (.block 1 (.seq c64_o5
 (.cond (.s [f,t,f,t]) (.seq c64_o6
 .ret) .skip)))
 c64_o7)) : CCode)) false true
def c64_l0 : CCode:=(fun (f t : Bool) => (.loop [[],[f],[f,t]] c64_b0 : CCode)) false true
def c64_o8 : CCode:=(fun (f t : Bool) => (.trim [] (.ops [
  ⟨some [t,f],.move (.c (.bool t)),none⟩]) : CCode)) false true
def c64 : CFunc:=(fun (f t : Bool) => ({ params:=[[],[f]],results:=[.slot [t,f]],shared:=f,body:=(.seq c64_o0
 (.seq (.seq c64_o1
 (.cond (.s [t,t,f]) (.seq c64_o2
 .ret) .skip))
 (.seq (.seq c64_o3
 (.block 0 c64_l0))
 (.seq c64_o8
 .ret)))) } : CFunc)) false true
def c65_o0 : CCode:=.trim [] (.ops [
  ⟨some [],.alloc none [.int .i64 0,.nils,.nils],none⟩])
def c65_o1 : CCode:=(fun (f t : Bool) => (.trim [[]] (.ops [
  ⟨some [f],.buildSlice none 1 2 [.int .i64 0,.int .i64 0] [(0,1,(.c (.int .i64 1))),(1,1,(.c (.int .i64 1)))],none⟩,
  ⟨some [t],.buildSlice none 1 2 [.int .i64 0,.int .i64 0] [(0,1,(.c (.int .i64 1))),(1,1,(.c (.int .i64 0)))],none⟩,
  ⟨some [f,f],.buildSlice none 1 2 [.nils,.nils] [(0,1,(.s [f])),(1,1,(.s [t]))],none⟩,
  ⟨some [t,f],.buildSlice none 1 2 [.int .i64 0,.int .i64 0] [(0,1,(.c (.int .i64 1))),(1,1,(.c (.int .i64 1)))],none⟩,
  ⟨some [f,t],.buildSlice none 1 2 [.int .i64 0,.int .i64 0] [(0,1,(.c (.int .i64 1))),(1,1,(.c (.int .i64 0)))],none⟩,
  ⟨some [t,t],.buildSlice none 1 2 [.nils,.nils] [(0,1,(.s [t,f])),(1,1,(.s [f,t]))],none⟩,
  ⟨some [f,f,f],.build [.int .i64 0,.nils,.nils] [(0,1,(.c (.int .i64 2))),(1,1,(.s [f,f])),(2,1,(.s [t,t]))],none⟩,
  ⟨none,.store 3 (.s []) (.s [f,f,f]),none⟩]) : CCode)) false true
def c65 : CFunc:=(fun (f t : Bool) => ({ params:=[],results:=[.cell [] (some 3)],shared:=f,body:=(.seq c65_o0
 (.seq c65_o1
 .ret)) } : CFunc)) false true
def c66_o0 : CCode:=(fun (f t : Bool) => (.trim [[]] (.ops [
  ⟨some [t],.move (.c (.nils)),none⟩]) : CCode)) false true
def c66_o1 : CCode:=(fun (f t : Bool) => (.trim [[]] (.ops [
  ⟨some [f,f],.move (.c (.nils)),none⟩]) : CCode)) false true
def c66_o2 : CCode:=(fun (f t : Bool) => (.trim [[],[f,f]] (.ops [
  ⟨some [t,f],.move (.c (.int .i64 0)),none⟩]) : CCode)) false true
def c66_o3 : CCode:=(fun (f t : Bool) => (.trim [[],[f,f],[t,f]] (.ops [
  ⟨some [f,t],.move (.s [t,f]),none⟩,
  ⟨some [t,t],.move (.s []),none⟩,
  ⟨some [f,f,f],.len 1 (.s [t,t]),none⟩,
  ⟨some [t,f,f],.bin .lss (.s [f,t]) (.s [f,f,f]),none⟩,
  ⟨some [f,t,f],.move (.s [t,f,f]),none⟩,
  ⟨some [t,t,f],.move (.s [t,f]),some ([f,t,f],t)⟩,
  ⟨some [f,f,t],.bin .lss (.s [t,t,f]) (.c (.int .i64 7)),some ([f,t,f],t)⟩,
  ⟨some [t,f,t],.pick (.s [f,t,f]) (.s [f,f,t]) (.c (.bool f)),none⟩]) : CCode)) false true
def c66_o4 : CCode:=(fun (f t : Bool) => (.trim [[],[f,f],[t,f]] (.ops [
  ⟨some [f,f,f,f],.move (.s [f,f]),none⟩,
  ⟨some [t,f,f,f],.move (.s []),none⟩,
  ⟨some [f,t,f,f],.move (.s [t,f]),none⟩,
  ⟨some [t,t,f,f],.idxSl 1 (.s [t,f,f,f]) (.s [f,t,f,f]),none⟩,
  ⟨some [f,f,t,f],.load none (.s [t,t,f,f]),none⟩,
  ⟨some [t,f,t,f],.call f (.c (.func 92 [])) [(.s [f,f,t,f])],none⟩,
  ⟨some [f,t,t,f],.buildSlice none 1 1 [.nils] [(0,1,(.s [t,f,t,f]))],none⟩,
  ⟨some [t,t,t,f],.append none 1 24 (.s [f,f,f,f]) (.s [f,t,t,f]),none⟩,
  ⟨some [f,f],.move (.s [t,t,t,f]),none⟩]) : CCode)) false true
def c66_o5 : CCode:=(fun (f t : Bool) => (.trim [[],[f,f],[t,f]] (.ops [
  ⟨some [f,t,t],.move (.s [t,f]),none⟩,
  ⟨some [t,t,t],.bin .add (.s [f,t,t]) (.c (.int .i64 1)),none⟩,
  ⟨some [t,f],.move (.s [t,t,t]),none⟩]) : CCode)) false true
def c66_b0 : CCode:=(fun (f t : Bool) => ((.seq (.seq c66_o3
 (.cond (.s [t,f,t]) .skip (.exit 0)))
 (.seq (.block 1 c66_o4)
 c66_o5)) : CCode)) false true
def c66_l0 : CCode:=(fun (f t : Bool) => (.loop [[],[f,f],[t,f]] c66_b0 : CCode)) false true
def c66_o6 : CCode:=(fun (f t : Bool) => (.trim [[f,f]] (.ops [
  ⟨some [f,f,f,t],.move (.s [f,f]),none⟩,
  ⟨some [t],.move (.s [f,f,f,t]),none⟩]) : CCode)) false true
def c66 : CFunc:=(fun (f t : Bool) => ({ params:=[[]],results:=[.slot [t]],shared:=f,body:=(.seq c66_o0
 (.seq c66_o1
 (.seq (.seq c66_o2
 (.block 0 c66_l0))
 (.seq c66_o6
 .ret)))) } : CFunc)) false true
def c67_o0 : CCode:=(fun (f t : Bool) => (.trim [[],[f]] (.ops [
  ⟨some [t,f],.move (.c (.bool f)),none⟩]) : CCode)) false true
def c67_o1 : CCode:=(fun (f t : Bool) => (.trim [[],[f]] (.ops [
  ⟨some [f,t],.move (.c (.int .i64 0)),none⟩]) : CCode)) false true
def c67_o2 : CCode:=(fun (f t : Bool) => (.trim [[],[f],[f,t]] (.ops [
  ⟨some [f,f,f],.move (.s [f,t]),none⟩,
  ⟨some [t,f,f],.move (.s []),none⟩,
  ⟨some [f,t,f],.len 1 (.s [t,f,f]),none⟩,
  ⟨some [t,t,f],.bin .lss (.s [f,f,f]) (.s [f,t,f]),none⟩]) : CCode)) false true
def c67_o3 : CCode:=(fun (f t : Bool) => (.trim [[],[f],[f,t]] (.ops [
  ⟨some [f,t,t],.move (.s []),none⟩,
  ⟨some [t,t,t],.move (.s [f,t]),none⟩,
  ⟨some [f,f,f,f],.idxSl 1 (.s [f,t,t]) (.s [t,t,t]),none⟩,
  ⟨some [t,f,f,f],.load none (.s [f,f,f,f]),none⟩,
  ⟨some [f,t,f,f],.len 1 (.s [t,f,f,f]),none⟩,
  ⟨some [t,t,f,f],.move (.s [f]),none⟩,
  ⟨some [f,f,t,f],.bin .neq (.s [f,t,f,f]) (.s [t,t,f,f]),none⟩]) : CCode)) false true
def c67_o4 : CCode:=(fun (f t : Bool) => (.trim [] (.ops [
  ⟨some [t,f],.move (.c (.bool f)),none⟩]) : CCode)) false true
def c67_o5 : CCode:=(fun (f t : Bool) => (.trim [[],[f],[f,t]] (.ops [
  ⟨some [t,t],.move (.c (.int .i64 0)),none⟩]) : CCode)) false true
def c67_o6 : CCode:=(fun (f t : Bool) => (.trim [[],[f],[f,t],[t,t]] (.ops [
  ⟨some [t,f,t,f],.move (.s [t,t]),none⟩,
  ⟨some [f,t,t,f],.move (.s [f]),none⟩,
  ⟨some [t,t,t,f],.bin .lss (.s [t,f,t,f]) (.s [f,t,t,f]),none⟩]) : CCode)) false true
def c67_o7 : CCode:=(fun (f t : Bool) => (.trim [[],[f],[f,t],[t,t]] (.ops [
  ⟨some [f,t,f,t],.move (.s []),none⟩,
  ⟨some [t,t,f,t],.move (.s [f,t]),none⟩,
  ⟨some [f,f,t,t],.idxSl 1 (.s [f,t,f,t]) (.s [t,t,f,t]),none⟩,
  ⟨some [t,f,t,t],.load none (.s [f,f,t,t]),none⟩,
  ⟨some [f,t,t,t],.move (.s [t,t]),none⟩,
  ⟨some [t,t,t,t],.idxSl 1 (.s [t,f,t,t]) (.s [f,t,t,t]),none⟩,
  ⟨some [f,f,f,f,f],.load none (.s [t,t,t,t]),none⟩,
  ⟨some [t,f,f,f,f],.bin .neq (.s [f,f,f,f,f]) (.c (.int .i64 0)),none⟩,
  ⟨some [f,t,f,f,f],.move (.s [t,f,f,f,f]),none⟩,
  ⟨some [t,t,f,f,f],.move (.s []),some ([f,t,f,f,f],t)⟩,
  ⟨some [f,f,t,f,f],.move (.s [f,t]),some ([f,t,f,f,f],t)⟩,
  ⟨some [t,f,t,f,f],.idxSl 1 (.s [t,t,f,f,f]) (.s [f,f,t,f,f]),some ([f,t,f,f,f],t)⟩,
  ⟨some [f,t,t,f,f],.load none (.s [t,f,t,f,f]),some ([f,t,f,f,f],t)⟩,
  ⟨some [t,t,t,f,f],.move (.s [t,t]),some ([f,t,f,f,f],t)⟩,
  ⟨some [f,f,f,t,f],.idxSl 1 (.s [f,t,t,f,f]) (.s [t,t,t,f,f]),some ([f,t,f,f,f],t)⟩,
  ⟨some [t,f,f,t,f],.load none (.s [f,f,f,t,f]),some ([f,t,f,f,f],t)⟩,
  ⟨some [f,t,f,t,f],.bin .neq (.s [t,f,f,t,f]) (.c (.int .i64 1)),some ([f,t,f,f,f],t)⟩,
  ⟨some [t,t,f,t,f],.pick (.s [f,t,f,f,f]) (.s [f,t,f,t,f]) (.c (.bool f)),none⟩]) : CCode)) false true
def c67_o8 : CCode:=(fun (f t : Bool) => (.trim [] (.ops [
  ⟨some [t,f],.move (.c (.bool f)),none⟩]) : CCode)) false true
def c67_o9 : CCode:=(fun (f t : Bool) => (.trim [[],[f],[f,t],[t,t]] (.ops [
  ⟨some [f,f,f,t],.move (.s [t,t]),none⟩,
  ⟨some [t,f,f,t],.bin .add (.s [f,f,f,t]) (.c (.int .i64 1)),none⟩,
  ⟨some [t,t],.move (.s [t,f,f,t]),none⟩]) : CCode)) false true
def c67_b0 : CCode:=(fun (f t : Bool) => ((.seq (.seq c67_o6
 (.cond (.s [t,t,t,f]) .skip (.exit 2)))
 (.seq (.block 3 (.seq c67_o7
 (.cond (.s [t,t,f,t,f]) (.seq c67_o8
 .ret) .skip)))
 c67_o9)) : CCode)) false true
def c67_l0 : CCode:=(fun (f t : Bool) => (.loop [[],[f],[f,t],[t,t]] c67_b0 : CCode)) false true
def c67_o10 : CCode:=(fun (f t : Bool) => (.trim [[],[f],[f,t]] (.ops [
  ⟨some [f,f,t],.move (.s [f,t]),none⟩,
  ⟨some [t,f,t],.bin .add (.s [f,f,t]) (.c (.int .i64 1)),none⟩,
  ⟨some [f,t],.move (.s [t,f,t]),none⟩]) : CCode)) false true
def c67_b1 : CCode:=(fun (f t : Bool) => ((.seq (.seq c67_o2
 (.cond (.s [t,t,f]) .skip (.exit 0)))
 (.seq (.block 1 (.seq (.seq c67_o3
 (.cond (.s [f,f,t,f]) (.seq c67_o4
 .ret) .skip))
 (.seq c67_o5
 (.block 2 c67_l0))))
 c67_o10)) : CCode)) false true
def c67_l1 : CCode:=(fun (f t : Bool) => (.loop [[],[f],[f,t]] c67_b1 : CCode)) false true
def c67_o11 : CCode:=(fun (f t : Bool) => (.trim [[],[f]] (.ops [
  ⟨some [f,f,t,t,f],.move (.s []),none⟩,
  ⟨some [t,f,t,t,f],.len 1 (.s [f,f,t,t,f]),none⟩,
  ⟨some [f,t,t,t,f],.move (.s [f]),none⟩,
  ⟨some [t,t,t,t,f],.bin .eql (.s [t,f,t,t,f]) (.s [f,t,t,t,f]),none⟩,
  ⟨some [t,f],.move (.s [t,t,t,t,f]),none⟩]) : CCode)) false true
def c67 : CFunc:=(fun (f t : Bool) => ({ params:=[[],[f]],results:=[.slot [t,f]],shared:=f,body:=(.seq c67_o0
 (.seq (.seq c67_o1
 (.block 0 c67_l1))
 (.seq c67_o11
 .ret))) } : CFunc)) false true
def c68_o0 : CCode:=(fun (f t : Bool) => (.trim [[],[f]] (.ops [
  ⟨some [t],.box none (.s []),none⟩,
  ⟨some [t,f],.move (.c (.bool f)),none⟩]) : CCode)) false true
def c68_o1 : CCode:=(fun (f t : Bool) => (.trim [[f],[t]] (.ops [
  ⟨some [f,t],.move (.c (.int .i64 1)),none⟩]) : CCode)) false true
def c68_o2 : CCode:=(fun (f t : Bool) => (.trim [[f],[t],[f,t]] (.ops [
  ⟨some [t,t],.move (.s [f,t]),none⟩,
  ⟨some [f,f,f],.move (.s [f]),none⟩,
  ⟨some [t,f,f],.len 0 (.s [f,f,f]),none⟩,
  ⟨some [f,t,f],.bin .lss (.s [t,t]) (.s [t,f,f]),none⟩]) : CCode)) false true
def c68_o3 : CCode:=(fun (f t : Bool) => (.trim [[f],[t],[f,t]] (.draw 0 [
  ⟨some [t,f,t],.fieldAddr 1 (.s [t]),none⟩,
  ⟨some [f,t,t],.load none (.s [t,f,t]),none⟩,
  ⟨some [t,t,t],.move (.s [f]),none⟩,
  ⟨some [f,f,f,f],.move (.s [f,t]),none⟩,
  ⟨some [t,f,f,f],.bin .sub (.s [f,f,f,f]) (.c (.int .i64 1)),none⟩,
  ⟨some [f,t,f,f],.idxStr (.s [t,t,t]) (.s [t,f,f,f]),none⟩,
  ⟨some [t,t,f,f],.bin .sub (.s [f,t,f,f]) (.c (.int .u8 48)),none⟩,
  ⟨some [f,f,t,f],.idxSl 1 (.s [f,t,t]) (.s [t,t,f,f]),none⟩,
  ⟨some [t,f,t,f],.load none (.s [f,f,t,f]),none⟩,
  ⟨some [f,t,t,f],.move (.s [f]),none⟩,
  ⟨some [t,t,t,f],.move (.s [f,t]),none⟩,
  ⟨some [f,f,f,t],.idxStr (.s [f,t,t,f]) (.s [t,t,t,f]),none⟩,
  ⟨some [t,f,f,t],.bin .sub (.s [f,f,f,t]) (.c (.int .u8 48)),none⟩,
  ⟨some [f,t,f,t],.idxSl 1 (.s [t,f,t,f]) (.s [t,f,f,t]),none⟩,
  ⟨some [t,t,f,t],.load none (.s [f,t,f,t]),none⟩,
  ⟨some [f,f,t,t],.bin .eql (.s [t,t,f,t]) (.c (.int .i64 0)),none⟩]
  [] [[],[0],[],[],[3],[2,3,4],[2,3,4,5],(r 7),(r 8),[],[],[9,10],[9,10,11],(r 13),(r 14),(r 15)]) : CCode)) false true
def c68_o4 : CCode:=(fun (f t : Bool) => (.trim [] (.ops [
  ⟨some [t,f],.move (.c (.bool f)),none⟩]) : CCode)) false true
def c68_o5 : CCode:=(fun (f t : Bool) => (.trim [[f],[t],[f,t]] (.ops [
  ⟨some [t,t,f],.move (.s [f,t]),none⟩,
  ⟨some [f,f,t],.bin .add (.s [t,t,f]) (.c (.int .i64 1)),none⟩,
  ⟨some [f,t],.move (.s [f,f,t]),none⟩]) : CCode)) false true
def c68_b0 : CCode:=(fun (f t : Bool) => ((.seq (.seq c68_o2
 (.cond (.s [f,t,f]) .skip (.exit 0)))
 (.seq (.block 1 (.seq c68_o3
 (.cond (.s [f,f,t,t]) (.seq c68_o4
 .ret) .skip)))
 c68_o5)) : CCode)) false true
def c68_l0 : CCode:=(fun (f t : Bool) => (.loop [[f],[t],[f,t]] c68_b0 : CCode)) false true
def c68_o6 : CCode:=(fun (f t : Bool) => (.trim [] (.ops [
  ⟨some [t,f],.move (.c (.bool t)),none⟩]) : CCode)) false true
def c68 : CFunc:=(fun (f t : Bool) => ({ params:=[[],[f]],results:=[.slot [t,f]],shared:=f,body:=(.seq c68_o0
 (.seq (.seq c68_o1
 (.block 0 c68_l0))
 (.seq c68_o6
 .ret))) } : CFunc)) false true
def c69_o0 : CCode:=(fun (f t : Bool) => (.trim [[],[f],[t]] (.ops [
  ⟨some [f,f],.box none (.s []),none⟩,
  ⟨some [t,t],.move (.c (.bool f)),none⟩]) : CCode)) false true
def c69_o1 : CCode:=(fun (f t : Bool) => (.trim [[f],[t],[f,f]] (.ops [
  ⟨some [f,f,f],.move (.c (.int .i64 0)),none⟩]) : CCode)) false true
def c69_o2 : CCode:=(fun (f t : Bool) => (.trim [[f],[t],[f,f],[f,f,f]] (.ops [
  ⟨some [t,f,f],.move (.s [f,f,f]),none⟩,
  ⟨some [f,t,f],.move (.s [t]),none⟩,
  ⟨some [t,t,f],.len 0 (.s [f,t,f]),none⟩,
  ⟨some [f,f,t],.bin .lss (.s [t,f,f]) (.s [t,t,f]),none⟩]) : CCode)) false true
def c69_o3 : CCode:=(fun (f t : Bool) => (.trim [[f],[t],[f,f],[f,f,f]] (.draw 0 [
  ⟨some [t,t,t],.fieldAddr 2 (.s [f,f]),none⟩,
  ⟨some [f,f,f,f],.load none (.s [t,t,t]),none⟩,
  ⟨some [t,f,f,f],.move (.s [f]),none⟩,
  ⟨some [f,t,f,f],.move (.s [f,f,f]),none⟩,
  ⟨some [t,t,f,f],.idxStr (.s [t,f,f,f]) (.s [f,t,f,f]),none⟩,
  ⟨some [f,f,t,f],.bin .sub (.s [t,t,f,f]) (.c (.int .u8 48)),none⟩,
  ⟨some [t,f,t,f],.idxSl 1 (.s [f,f,f,f]) (.s [f,f,t,f]),none⟩,
  ⟨some [f,t,t,f],.load none (.s [t,f,t,f]),none⟩,
  ⟨some [t,t,t,f],.move (.s [t]),none⟩,
  ⟨some [f,f,f,t],.move (.s [f,f,f]),none⟩,
  ⟨some [t,f,f,t],.idxStr (.s [t,t,t,f]) (.s [f,f,f,t]),none⟩,
  ⟨some [f,t,f,t],.bin .sub (.s [t,f,f,t]) (.c (.int .u8 48)),none⟩,
  ⟨some [t,t,f,t],.idxSl 1 (.s [f,t,t,f]) (.s [f,t,f,t]),none⟩,
  ⟨some [f,f,t,t],.load none (.s [t,t,f,t]),none⟩,
  ⟨some [t,f,t,t],.bin .eql (.s [f,f,t,t]) (.c (.int .i64 0)),none⟩]
  [] [[],[0],[],[],[2,3],[2,3,4],(r 6),(r 7),[],[],[8,9],[8,9,10],(r 12),(r 13),(r 14)]) : CCode)) false true
def c69_o4 : CCode:=(fun (f t : Bool) => (.trim [] (.ops [
  ⟨some [t,t],.move (.c (.bool f)),none⟩]) : CCode)) false true
def c69_o5 : CCode:=(fun (f t : Bool) => (.trim [[f],[t],[f,f],[f,f,f]] (.ops [
  ⟨some [t,f,t],.move (.s [f,f,f]),none⟩,
  ⟨some [f,t,t],.bin .add (.s [t,f,t]) (.c (.int .i64 1)),none⟩,
  ⟨some [f,f,f],.move (.s [f,t,t]),none⟩]) : CCode)) false true
def c69_b0 : CCode:=(fun (f t : Bool) => ((.seq (.seq c69_o2
 (.cond (.s [f,f,t]) .skip (.exit 0)))
 (.seq (.block 1 (.seq c69_o3
 (.cond (.s [t,f,t,t]) (.seq c69_o4
 .ret) .skip)))
 c69_o5)) : CCode)) false true
def c69_l0 : CCode:=(fun (f t : Bool) => (.loop [[f],[t],[f,f],[f,f,f]] c69_b0 : CCode)) false true
def c69_o6 : CCode:=(fun (f t : Bool) => (.trim [] (.ops [
  ⟨some [t,t],.move (.c (.bool t)),none⟩]) : CCode)) false true
def c69 : CFunc:=(fun (f t : Bool) => ({ params:=[[],[f],[t]],results:=[.slot [t,t]],shared:=f,body:=(.seq c69_o0
 (.seq (.seq c69_o1
 (.block 0 c69_l0))
 (.seq c69_o6
 .ret))) } : CFunc)) false true
def c73_o0 : CCode:=(fun (f t : Bool) => (.trim [[],[f],[t],[f,f]] (.ops [
  ⟨some [f,t],.move (.c (.int .i64 0)),none⟩]) : CCode)) false true
def c73_o1 : CCode:=(fun (f t : Bool) => (.trim [[],[f],[t],[f,f]] (.ops [
  ⟨some [f,t,t],.load none (.s [f]),none⟩,
  ⟨some [t,t,t],.move (.s []),none⟩,
  ⟨some [f,f,f,f],.lookup (.i .i64) (.int .i64 0) t (.s [f,t,t]) (.s [t,t,t]),none⟩,
  ⟨some [t,f,t],.move (.s [f,f,f,f]),none⟩,
  ⟨some [t,f,f,f],.extract 0 (.s [t,f,t]),none⟩,
  ⟨some [f,t,f,f],.extract 1 (.s [t,f,t]),none⟩,
  ⟨some [t,t],.move (.s [t,f,f,f]),none⟩,
  ⟨some [f,f,f],.move (.s [f,t,f,f]),none⟩]) : CCode)) false true
def c73_o2 : CCode:=(fun (f t : Bool) => (.trim [[],[f],[t],[f,f],[t,t],[f,f,f]] (.ops [
  ⟨some [f,f,t,f],.move (.s [f,f,f]),none⟩,
  ⟨some [t,f,t,f],.move (.s [f,f,t,f]),none⟩,
  ⟨some [f,t,t,f],.move (.s [t,t]),some ([t,f,t,f],t)⟩,
  ⟨some [t,t,t,f],.bin .eql (.s [f,t,t,f]) (.c (.int .i64 0)),some ([t,f,t,f],t)⟩,
  ⟨some [f,f,f,t],.pick (.s [t,f,t,f]) (.s [t,t,t,f]) (.c (.bool f)),none⟩,
  ⟨some [t,t,f,f],.move (.s [f,f,f,t]),none⟩]) : CCode)) false true
def c73_o3 : CCode:=(fun (f t : Bool) => (.trim [] (.ops [
  ⟨some [f,t],.move (.c (.int .i64 (-1))),none⟩]) : CCode)) false true
def c73_o4 : CCode:=(fun (f t : Bool) => (.trim [[],[f],[t],[f,f],[t,t],[f,f,f]] (.ops [
  ⟨some [f,t,f,t],.move (.s [f,f,f]),none⟩,
  ⟨some [t,f,f,t],.move (.s [f,t,f,t]),none⟩]) : CCode)) false true
def c73_o5 : CCode:=(fun (f t : Bool) => (.trim [[t,t]] (.ops [
  ⟨some [t,t,f,t],.move (.s [t,t]),none⟩,
  ⟨some [f,t],.move (.s [t,t,f,t]),none⟩]) : CCode)) false true
def c73_o6 : CCode:=(fun (f t : Bool) => (.trim [[],[f],[t],[f,f]] (.ops [
  ⟨some [f,f,t,t],.load none (.s [f]),none⟩,
  ⟨some [t,f,t,t],.move (.s []),none⟩,
  ⟨none,.mapUpdate (.i .i64) (.s [f,f,t,t]) (.s [t,f,t,t]) (.c (.int .i64 0)),none⟩]) : CCode)) false true
def c73_o7 : CCode:=(fun (f t : Bool) => (.trim [[],[f],[t],[f,f]] (.ops [
  ⟨some [t,f,f],.move (.c (.int .i64 0)),none⟩]) : CCode)) false true
def c73_o8 : CCode:=(fun (f t : Bool) => (.trim [[],[f],[t],[f,f],[t,f,f]] (.ops [
  ⟨some [f,t,t,t],.load none (.s [t]),none⟩,
  ⟨some [t,t,t,t],.nilCheck (.s [f,t,t,t]),none⟩,
  ⟨some [f,f,f,f,f],.fieldAddr 2 (.s [t,t,t,t]),none⟩,
  ⟨some [t,f,f,f,f],.load none (.s [f,f,f,f,f]),none⟩,
  ⟨some [f,t,f,f,f],.move (.s []),none⟩,
  ⟨some [t,t,f,f,f],.idxSl 1 (.s [t,f,f,f,f]) (.s [f,t,f,f,f]),none⟩,
  ⟨some [f,f,t,f,f],.load none (.s [t,t,f,f,f]),none⟩,
  ⟨some [t,f,t,f,f],.len 1 (.s [f,f,t,f,f]),none⟩,
  ⟨some [f,t,t,f,f],.move (.c (.int .i64 0)),none⟩]) : CCode)) false true
def c73_o9 : CCode:=(fun (f t : Bool) => (.trim [[],[f],[f,f],[t,f,f],[f,f,t,f,f],[t,f,t,f,f],[f,t,t,f,f]] (.ops [
  ⟨some [t,t,t,f,f],.bin .lss (.s [f,t,t,f,f]) (.s [t,f,t,f,f]),none⟩]) : CCode)) false true
def c73_o10 : CCode:=(fun (f t : Bool) => (.trim [[],[f],[f,f],[t,f,f],[f,f,t,f,f],[t,f,t,f,f],[f,t,t,f,f]] (.ops [
  ⟨some [f,f,f,t,f],.idxSl 1 (.s [f,f,t,f,f]) (.s [f,t,t,f,f]),none⟩,
  ⟨some [t,f,f,t,f],.load none (.s [f,f,f,t,f]),none⟩,
  ⟨some [t,t,f],.move (.s [t,f,f,t,f]),none⟩]) : CCode)) false true
def c73_o11 : CCode:=(fun (f t : Bool) => (.trim [[],[f],[f,f],[t,f,f],[t,t,f],[f,f,t,f,f],[t,f,t,f,f],[f,t,t,f,f]] (.ops [
  ⟨some [f,t,f,t,f],.load none (.s [f,f]),none⟩,
  ⟨some [t,t,f,t,f],.move (.s [t,t,f]),none⟩,
  ⟨some [f,f,t,t,f],.call f (.s [f,t,f,t,f]) [(.s [t,t,f,t,f])],none⟩,
  ⟨some [f,f,t],.move (.s [f,f,t,t,f]),none⟩]) : CCode)) false true
def c73_o12 : CCode:=(fun (f t : Bool) => (.trim [[],[f],[f,f],[t,f,f],[f,f,t],[f,f,t,f,f],[t,f,t,f,f],[f,t,t,f,f]] (.ops [
  ⟨some [t,f,t,t,f],.move (.s [f,f,t]),none⟩,
  ⟨some [f,t,t,t,f],.bin .lss (.s [t,f,t,t,f]) (.c (.int .i64 0)),none⟩]) : CCode)) false true
def c73_o13 : CCode:=(fun (f t : Bool) => (.trim [] (.ops [
  ⟨some [f,t],.move (.c (.int .i64 (-1))),none⟩]) : CCode)) false true
def c73_o14 : CCode:=(fun (f t : Bool) => (.trim [[],[f],[f,f],[t,f,f],[f,f,t],[f,f,t,f,f],[t,f,t,f,f],[f,t,t,f,f]] (.ops [
  ⟨some [t,t,t,t,f],.move (.s [t,f,f]),none⟩,
  ⟨some [f,f,f,f,t],.move (.s [f,f,t]),none⟩,
  ⟨some [t,f,f,f,t],.minmax t (.s [t,t,t,t,f]) (.s [f,f,f,f,t]),none⟩,
  ⟨some [t,f,f],.move (.s [t,f,f,f,t]),none⟩]) : CCode)) false true
def c73_o15 : CCode:=(fun (f t : Bool) => (.trim [[],[f],[f,f],[t,f,f],[f,f,t,f,f],[t,f,t,f,f],[f,t,t,f,f]] (.ops [
  ⟨some [f,t,f,f,t],.bin .add (.s [f,t,t,f,f]) (.c (.int .i64 1)),none⟩,
  ⟨some [f,t,t,f,f],.move (.s [f,t,f,f,t]),none⟩]) : CCode)) false true
def c73_b0 : CCode:=(fun (f t : Bool) => ((.seq c73_o9
 (.seq (.cond (.s [t,t,t,f,f]) .skip (.exit 1))
 (.seq (.block 2 (.seq c73_o10
 (.seq c73_o11
 (.seq (.seq c73_o12
 (.cond (.s [f,t,t,t,f]) (.seq c73_o13
 .ret) .skip))
 c73_o14))))
 c73_o15))) : CCode)) false true
def c73_l0 : CCode:=(fun (f t : Bool) => (.loop [[],[f],[f,f],[t,f,f],[f,f,t,f,f],[t,f,t,f,f],[f,t,t,f,f]] c73_b0 : CCode)) false true
def c73_o16 : CCode:=(fun (f t : Bool) => (.trim [[],[f],[t,f,f]] (.ops [
  ⟨some [t,t,f,f,t],.load none (.s [f]),none⟩,
  ⟨some [f,f,t,f,t],.move (.s []),none⟩,
  ⟨some [t,f,t,f,t],.move (.s [t,f,f]),none⟩,
  ⟨some [f,t,t,f,t],.bin .add (.c (.int .i64 1)) (.s [t,f,t,f,t]),none⟩,
  ⟨none,.mapUpdate (.i .i64) (.s [t,t,f,f,t]) (.s [f,f,t,f,t]) (.s [f,t,t,f,t]),none⟩]) : CCode)) false true
def c73_o17 : CCode:=(fun (f t : Bool) => (.trim [[t,f,f]] (.ops [
  ⟨some [t,t,t,f,t],.move (.s [t,f,f]),none⟩,
  ⟨some [f,f,f,t,t],.bin .add (.c (.int .i64 1)) (.s [t,t,t,f,t]),none⟩,
  ⟨some [f,t],.move (.s [f,f,f,t,t]),none⟩]) : CCode)) false true
def c73 : CFunc:=(fun (f t : Bool) => ({ params:=[[],[f],[t],[f,f]],results:=[.slot [f,t]],shared:=t,body:=(.seq c73_o0
 (.seq c73_o1
 (.seq (.block 0 (.seq c73_o2
 (.cond (.s [t,t,f,f]) (.seq c73_o3
 .ret) (.seq c73_o4
 (.cond (.s [t,f,f,t]) (.seq c73_o5
 .ret) .skip)))))
 (.seq c73_o6
 (.seq c73_o7
 (.seq (.seq c73_o8
 (.block 1 c73_l0))
 (.seq c73_o16
 (.seq c73_o17
 .ret)))))))) } : CFunc)) false true
def c79_o0 : CCode:=(fun (f t : Bool) => (.trim [[],[f]] (.ops [
  ⟨some [t,f],.move (.c (.nils)),none⟩]) : CCode)) false true
def c79_o1 : CCode:=(fun (f t : Bool) => (.trim [[],[f]] (.ops [
  ⟨some [f,t,f],.move (.s [f]),none⟩,
  ⟨some [t,t,f],.bin .lss (.s [f,t,f]) (.c (.int .i64 0)),none⟩]) : CCode)) false true
def c79_o2 : CCode:=(fun (f t : Bool) => (.trim [[],[f]] (.ops [
  ⟨some [f,f,t],.iface 9 (.c (.str [99,97,110,110,111,116,32,98,101,32,110,101,103,97,116,105,118,101])),none⟩,
  ⟨none,.fail,none⟩]) : CCode)) false true
def c79_o3 : CCode:=(fun (f t : Bool) => (.trim [[],[f]] (.ops [
  ⟨some [f,t,t],.move (.s []),none⟩,
  ⟨some [t,t,t],.len 1 (.s [f,t,t]),none⟩,
  ⟨some [f,f,f,f],.conv .u64 (.s [t,t,t]),none⟩,
  ⟨some [t,f,f,f],.move (.s [f]),none⟩,
  ⟨some [f,t,f,f],.conv .u64 (.s [t,f,f,f]),none⟩,
  ⟨some [t,t,f,f],.call f (.c (.func 99 [])) [(.s [f,f,f,f]),(.s [f,t,f,f])],none⟩,
  ⟨some [t,f,t],.move (.s [t,t,f,f]),none⟩,
  ⟨some [f,f,t,f],.extract 0 (.s [t,f,t]),none⟩,
  ⟨some [t,f,t,f],.extract 1 (.s [t,f,t]),none⟩,
  ⟨some [f,t],.move (.s [f,f,t,f]),none⟩,
  ⟨some [t,t],.move (.s [t,f,t,f]),none⟩]) : CCode)) false true
def c79_o4 : CCode:=(fun (f t : Bool) => (.trim [[],[f,t],[t,t]] (.ops [
  ⟨some [f,t,t,f],.move (.s [f,t]),none⟩,
  ⟨some [t,t,t,f],.bin .gtr (.s [f,t,t,f]) (.c (.int .u64 0)),none⟩,
  ⟨some [f,f,f,t],.move (.s [t,t,t,f]),none⟩,
  ⟨some [t,f,f,t],.move (.s [t,t]),some ([f,f,f,t],f)⟩,
  ⟨some [f,t,f,t],.bin .gtr (.s [t,f,f,t]) (.c (.int .u64 9223372036854775807)),some ([f,f,f,t],f)⟩,
  ⟨some [t,t,f,t],.pick (.s [f,f,f,t]) (.c (.bool t)) (.s [f,t,f,t]),none⟩]) : CCode)) false true
def c79_o5 : CCode:=(fun (f t : Bool) => (.trim [[],[t,t]] (.ops [
  ⟨some [f,f,t,t],.iface 9 (.c (.str [116,104,101,32,114,101,115,117,108,116,32,111,102,32,40,108,101,110,40,120,41,32,42,32,99,111,117,110,116,41,32,111,118,101,114,102,108,111,119,115])),none⟩,
  ⟨none,.fail,none⟩]) : CCode)) false true
def c79_o6 : CCode:=(fun (f t : Bool) => (.trim [[],[t,t]] (.ops [
  ⟨some [t,f,t,t],.move (.s [t,t]),none⟩,
  ⟨some [f,t,t,t],.conv .i64 (.s [t,f,t,t]),none⟩,
  ⟨some [t,t,t,t],.makeSlice none 1 1 [.bool f] (.s [f,t,t,t]),none⟩,
  ⟨some [f,f,f],.move (.s [t,t,t,t]),none⟩]) : CCode)) false true
def c79_o7 : CCode:=(fun (f t : Bool) => (.trim [[],[f,f,f]] (.ops [
  ⟨some [f,f,f,f,f],.move (.s [f,f,f]),none⟩,
  ⟨some [t,f,f,f,f],.move (.s []),none⟩,
  ⟨some [f,t,f,f,f],.copy 1 (.s [f,f,f,f,f]) (.s [t,f,f,f,f]),none⟩,
  ⟨some [t,f,f],.move (.s [f,t,f,f,f]),none⟩]) : CCode)) false true
def c79_o8 : CCode:=(fun (f t : Bool) => (.trim [[f,f,f],[t,f,f]] (.ops [
  ⟨some [t,t,f,f,f],.move (.s [t,f,f]),none⟩,
  ⟨some [f,f,t,f,f],.move (.s [f,f,f]),none⟩,
  ⟨some [t,f,t,f,f],.len 1 (.s [f,f,t,f,f]),none⟩,
  ⟨some [f,t,t,f,f],.bin .lss (.s [t,t,f,f,f]) (.s [t,f,t,f,f]),none⟩]) : CCode)) false true
def c79_o9 : CCode:=(fun (f t : Bool) => (.trim [[f,f,f],[t,f,f]] (.draw 0 [
  ⟨some [t,t,t,f,f],.move (.s [t,f,f]),none⟩,
  ⟨some [f,f,f,t,f],.move (.s [f,f,f]),none⟩,
  ⟨some [t,f,f,t,f],.move (.s [t,f,f]),none⟩,
  ⟨some [f,t,f,t,f],.slSl 1 (.s [f,f,f,t,f]) (some (.s [t,f,f,t,f])) none,none⟩,
  ⟨some [t,t,f,t,f],.move (.s [f,f,f]),none⟩,
  ⟨some [f,f,t,t,f],.move (.s [t,f,f]),none⟩,
  ⟨some [t,f,t,t,f],.slSl 1 (.s [t,t,f,t,f]) none (some (.s [f,f,t,t,f])),none⟩,
  ⟨some [f,t,t,t,f],.copy 1 (.s [f,t,f,t,f]) (.s [t,f,t,t,f]),none⟩,
  ⟨some [t,t,t,t,f],.bin .add (.s [t,t,t,f,f]) (.s [f,t,t,t,f]),none⟩,
  ⟨some [t,f,f],.move (.s [t,t,t,t,f]),none⟩]
  [(3,6)] [[],[],[],[1,2],[],[],[4,5],[1,2,3,4,5,6],(r 8),(r 9)]) : CCode)) false true
def c79_b0 : CCode:=(fun (f t : Bool) => ((.seq (.seq c79_o8
 (.cond (.s [f,t,t,f,f]) .skip (.exit 0)))
 (.block 1 c79_o9)) : CCode)) false true
def c79_l0 : CCode:=(fun (f t : Bool) => (.loop [[f,f,f],[t,f,f]] c79_b0 : CCode)) false true
def c79_o10 : CCode:=(fun (f t : Bool) => (.trim [[f,f,f]] (.ops [
  ⟨some [f,f,f,f,t],.move (.s [f,f,f]),none⟩,
  ⟨some [t,f],.move (.s [f,f,f,f,t]),none⟩]) : CCode)) false true
def c79 : CFunc:=(fun (f t : Bool) => ({ params:=[[],[f]],results:=[.slot [t,f]],shared:=f,body:=(.seq c79_o0
 (.seq (.seq c79_o1
 (.cond (.s [t,t,f]) c79_o2 .skip))
 (.seq c79_o3
 (.seq (.seq c79_o4
 (.cond (.s [t,t,f,t]) c79_o5 .skip))
 (.seq c79_o6
 (.seq c79_o7
 (.seq (.block 0 c79_l0)
 (.seq c79_o10
 .ret)))))))) } : CFunc)) false true
def c80_o0 : CCode:=(fun (f t : Bool) => (.trim [[],[f]] (.ops [
  ⟨some [t,f],.move (.c (.bool f)),none⟩]) : CCode)) false true
def c80_o1 : CCode:=(fun (f t : Bool) => (.trim [[],[f]] (.ops [
  ⟨some [f,t],.move (.s []),none⟩,
  ⟨some [t,t],.move (.s [f]),none⟩,
  ⟨some [f,f,f],.call f (.c (.func 100 [])) [(.s [f,t]),(.s [t,t])],none⟩,
  ⟨some [t,f,f],.bin .geq (.s [f,f,f]) (.c (.int .i64 0)),none⟩,
  ⟨some [t,f],.move (.s [t,f,f]),none⟩]) : CCode)) false true
def c80 : CFunc:=(fun (f t : Bool) => ({ params:=[[],[f]],results:=[.slot [t,f]],shared:=f,body:=(.seq c80_o0
 (.seq c80_o1
 .ret)) } : CFunc)) false true
def c83_o0 : CCode:=(fun (f t : Bool) => (.trim [[],[f]] (.ops [
  ⟨some [t],.box none (.s []),none⟩,
  ⟨some [t,f],.move (.c (.bool f)),none⟩]) : CCode)) false true
def c83_o1 : CCode:=(fun (f t : Bool) => (.trim [[f],[t]] (.ops [
  ⟨some [f,t,f],.move (.s [f]),none⟩,
  ⟨some [t,t,f],.len 1 (.s [f,t,f]),none⟩,
  ⟨some [f,f,t],.call f (.c (.func 60 [])) [(.s [t,t,f]),(.c (.int .i64 1)),(.c (.int .i64 40))],none⟩,
  ⟨some [t,f,t],.un .not (.s [f,f,t]),none⟩,
  ⟨some [f,t,t],.move (.s [t,f,t]),none⟩,
  ⟨some [t,t,t],.move (.s [f]),some ([f,t,t],f)⟩,
  ⟨some [f,f,f,f],.idxSl 1 (.s [t,t,t]) (.c (.int .i64 0)),some ([f,t,t],f)⟩,
  ⟨some [t,f,f,f],.load none (.s [f,f,f,f]),some ([f,t,t],f)⟩,
  ⟨some [f,t,f,f],.len 1 (.s [t,f,f,f]),some ([f,t,t],f)⟩,
  ⟨some [t,t,f,f],.call f (.c (.func 60 [])) [(.s [f,t,f,f]),(.c (.int .i64 1)),(.c (.int .i64 5))],some ([f,t,t],f)⟩,
  ⟨some [f,f,t,f],.un .not (.s [t,t,f,f]),some ([f,t,t],f)⟩,
  ⟨some [t,f,t,f],.pick (.s [f,t,t]) (.c (.bool t)) (.s [f,f,t,f]),none⟩]) : CCode)) false true
def c83_o2 : CCode:=(fun (f t : Bool) => (.trim [] (.ops [
  ⟨some [t,f],.move (.c (.bool f)),none⟩]) : CCode)) false true
def c83_o3 : CCode:=(fun (f t : Bool) => (.trim [[f],[t]] (.ops [
  ⟨some [f,t,t,f],.move (.s [f]),none⟩,
  ⟨some [t,t,t,f],.len 1 (.s [f,t,t,f]),none⟩,
  ⟨some [f,f,f,t],.move (.c (.int .i64 0)),none⟩]) : CCode)) false true
def c83_o4 : CCode:=(fun (f t : Bool) => (.trim [[f],[t],[f,t,t,f],[t,t,t,f],[f,f,f,t]] (.ops [
  ⟨some [t,f,f,t],.bin .lss (.s [f,f,f,t]) (.s [t,t,t,f]),none⟩]) : CCode)) false true
def c83_o5 : CCode:=(fun (f t : Bool) => (.trim [[f],[t],[f,t,t,f],[t,t,t,f],[f,f,f,t]] (.ops [
  ⟨some [f,t,f,t],.idxSl 1 (.s [f,t,t,f]) (.s [f,f,f,t]),none⟩,
  ⟨some [t,t,f,t],.load none (.s [f,t,f,t]),none⟩,
  ⟨some [t,t],.move (.s [t,t,f,t]),none⟩]) : CCode)) false true
def c83_o6 : CCode:=(fun (f t : Bool) => (.trim [[f],[t],[t,t],[f,t,t,f],[t,t,t,f],[f,f,f,t]] (.ops [
  ⟨some [f,f,t,t],.move (.s [t,t]),none⟩,
  ⟨some [t,f,t,t],.len 1 (.s [f,f,t,t]),none⟩,
  ⟨some [f,t,t,t],.move (.s [f]),none⟩,
  ⟨some [t,t,t,t],.idxSl 1 (.s [f,t,t,t]) (.c (.int .i64 0)),none⟩,
  ⟨some [f,f,f,f,f],.load none (.s [t,t,t,t]),none⟩,
  ⟨some [t,f,f,f,f],.len 1 (.s [f,f,f,f,f]),none⟩,
  ⟨some [f,t,f,f,f],.bin .neq (.s [t,f,t,t]) (.s [t,f,f,f,f]),none⟩]) : CCode)) false true
def c83_o7 : CCode:=(fun (f t : Bool) => (.trim [] (.ops [
  ⟨some [t,f],.move (.c (.bool f)),none⟩]) : CCode)) false true
def c83_o8 : CCode:=(fun (f t : Bool) => (.trim [[f],[t],[t,t],[f,t,t,f],[t,t,t,f],[f,f,f,t]] (.ops [
  ⟨some [t,t,f,f,f],.move (.s [t,t]),none⟩,
  ⟨some [f,f,t,f,f],.len 1 (.s [t,t,f,f,f]),none⟩,
  ⟨some [t,f,t,f,f],.move (.c (.int .i64 0)),none⟩]) : CCode)) false true
def c83_o9 : CCode:=(fun (f t : Bool) => (.trim [[f],[t],[f,t,t,f],[t,t,t,f],[f,f,f,t],[t,t,f,f,f],[f,f,t,f,f],[t,f,t,f,f]] (.ops [
  ⟨some [f,t,t,f,f],.bin .lss (.s [t,f,t,f,f]) (.s [f,f,t,f,f]),none⟩]) : CCode)) false true
def c83_o10 : CCode:=(fun (f t : Bool) => (.trim [[f],[t],[f,t,t,f],[t,t,t,f],[f,f,f,t],[t,t,f,f,f],[f,f,t,f,f],[t,f,t,f,f]] (.ops [
  ⟨some [t,t,t,f,f],.idxSl 1 (.s [t,t,f,f,f]) (.s [t,f,t,f,f]),none⟩,
  ⟨some [f,f,f,t,f],.load none (.s [t,t,t,f,f]),none⟩,
  ⟨some [t,f,f],.move (.s [f,f,f,t,f]),none⟩]) : CCode)) false true
def c83_o11 : CCode:=(fun (f t : Bool) => (.trim [[f],[t],[t,f,f],[f,t,t,f],[t,t,t,f],[f,f,f,t],[t,t,f,f,f],[f,f,t,f,f],[t,f,t,f,f]] (.ops [
  ⟨some [t,f,f,t,f],.move (.s [t,f,f]),none⟩,
  ⟨some [f,t,f,t,f],.len 1 (.s [t,f,f,t,f]),none⟩,
  ⟨some [t,t,f,t,f],.fieldAddr 0 (.s [t]),none⟩,
  ⟨some [f,f,t,t,f],.load none (.s [t,t,f,t,f]),none⟩,
  ⟨some [t,f,t,t,f],.bin .neq (.s [f,t,f,t,f]) (.s [f,f,t,t,f]),none⟩,
  ⟨some [f,t,t,t,f],.move (.s [t,f,t,t,f]),none⟩,
  ⟨some [t,t,t,t,f],.move (.s [t,f,f]),some ([f,t,t,t,f],f)⟩,
  ⟨some [f,f,f,f,t],.call f (.c (.func 80 [])) [(.s [t,t,t,t,f]),(.c (.func 101 []))],some ([f,t,t,t,f],f)⟩,
  ⟨some [t,f,f,f,t],.pick (.s [f,t,t,t,f]) (.c (.bool t)) (.s [f,f,f,f,t]),none⟩]) : CCode)) false true
def c83_o12 : CCode:=(fun (f t : Bool) => (.trim [] (.ops [
  ⟨some [t,f],.move (.c (.bool f)),none⟩]) : CCode)) false true
def c83_o13 : CCode:=(fun (f t : Bool) => (.trim [[f],[t],[f,t,t,f],[t,t,t,f],[f,f,f,t],[t,t,f,f,f],[f,f,t,f,f],[t,f,t,f,f]] (.ops [
  ⟨some [f,t,f,f,t],.bin .add (.s [t,f,t,f,f]) (.c (.int .i64 1)),none⟩,
  ⟨some [t,f,t,f,f],.move (.s [f,t,f,f,t]),none⟩]) : CCode)) false true
def c83_b0 : CCode:=(fun (f t : Bool) => ((.seq c83_o9
 (.seq (.cond (.s [f,t,t,f,f]) .skip (.exit 2))
 (.seq (.block 3 (.seq c83_o10
 (.seq c83_o11
 (.cond (.s [t,f,f,f,t]) (.seq c83_o12
 .ret) .skip))))
 c83_o13))) : CCode)) false true
def c83_l0 : CCode:=(fun (f t : Bool) => (.loop [[f],[t],[f,t,t,f],[t,t,t,f],[f,f,f,t],[t,t,f,f,f],[f,f,t,f,f],[t,f,t,f,f]] c83_b0 : CCode)) false true
def c83_o14 : CCode:=(fun (f t : Bool) => (.trim [[f],[t],[f,t,t,f],[t,t,t,f],[f,f,f,t]] (.ops [
  ⟨some [t,t,f,f,t],.bin .add (.s [f,f,f,t]) (.c (.int .i64 1)),none⟩,
  ⟨some [f,f,f,t],.move (.s [t,t,f,f,t]),none⟩]) : CCode)) false true
def c83_b1 : CCode:=(fun (f t : Bool) => ((.seq c83_o4
 (.seq (.cond (.s [t,f,f,t]) .skip (.exit 0))
 (.seq (.block 1 (.seq c83_o5
 (.seq (.seq c83_o6
 (.cond (.s [f,t,f,f,f]) (.seq c83_o7
 .ret) .skip))
 (.seq c83_o8
 (.block 2 c83_l0)))))
 c83_o14))) : CCode)) false true
def c83_l1 : CCode:=(fun (f t : Bool) => (.loop [[f],[t],[f,t,t,f],[t,t,t,f],[f,f,f,t]] c83_b1 : CCode)) false true
def c83_o15 : CCode:=(fun (f t : Bool) => (.trim [] (.ops [
  ⟨some [t,f],.move (.c (.bool t)),none⟩]) : CCode)) false true
def c83 : CFunc:=(fun (f t : Bool) => ({ params:=[[],[f]],results:=[.slot [t,f]],shared:=f,body:=(.seq c83_o0
 (.seq (.seq c83_o1
 (.cond (.s [t,f,t,f]) (.seq c83_o2
 .ret) .skip))
 (.seq (.seq c83_o3
 (.block 0 c83_l1))
 (.seq c83_o15
 .ret)))) } : CFunc)) false true
def c84_o0 : CCode:=(fun (f t : Bool) => (.trim [[],[f],[t],[f,f]] (.ops [
  ⟨some [t,f,f],.move (.c (.int .i64 0)),none⟩,
  ⟨some [f,t,f],.move (.c (.bool f)),none⟩]) : CCode)) false true
def c84_o1 : CCode:=(fun (f t : Bool) => (.trim [[],[f],[t],[f,f]] (.ops [
  ⟨some [t,f,f,f],.move (.s [f,f]),none⟩,
  ⟨some [f,t,f,f],.bin .eql (.s [t,f,f,f]) (.c (.int .i64 0)),none⟩]) : CCode)) false true
def c84_o2 : CCode:=(fun (f t : Bool) => (.trim [] (.ops [
  ⟨some [t,f,f],.move (.c (.int .i64 0)),none⟩,
  ⟨some [f,t,f],.move (.c (.bool t)),none⟩]) : CCode)) false true
def c84_o3 : CCode:=(fun (f t : Bool) => (.trim [[],[f],[t],[f,f]] (.ops [
  ⟨some [t,t,f],.move (.c (.int .i64 0)),none⟩,
  ⟨some [f,f,t],.move (.c (.bool f)),none⟩]) : CCode)) false true
def c84_o4 : CCode:=(fun (f t : Bool) => (.trim [[],[f],[t],[f,f],[t,t,f],[f,f,t]] (.ops [
  ⟨some [t,t,f,f],.move (.s []),none⟩,
  ⟨some [f,f,t,f],.nilCheck (.s [t,t,f,f]),none⟩,
  ⟨some [t,f,t,f],.fieldAddr 2 (.s [f,f,t,f]),none⟩,
  ⟨some [f,t,t,f],.load none (.s [t,f,t,f]),none⟩,
  ⟨some [t,t,t,f],.move (.s [t]),none⟩,
  ⟨some [f,f,f,t],.idxSl 1 (.s [f,t,t,f]) (.s [t,t,t,f]),none⟩,
  ⟨some [t,f,f,t],.load none (.s [f,f,f,t]),none⟩,
  ⟨some [f,t,f,t],.len 1 (.s [t,f,f,t]),none⟩,
  ⟨some [t,t,f,t],.move (.c (.int .i64 0)),none⟩]) : CCode)) false true
def c84_o5 : CCode:=(fun (f t : Bool) => (.trim [[f],[f,f],[t,t,f],[f,f,t],[t,f,f,t],[f,t,f,t],[t,t,f,t]] (.ops [
  ⟨some [f,f,t,t],.bin .lss (.s [t,t,f,t]) (.s [f,t,f,t]),none⟩]) : CCode)) false true
def c84_o6 : CCode:=(fun (f t : Bool) => (.trim [[f],[f,f],[t,t,f],[f,f,t],[t,f,f,t],[f,t,f,t],[t,t,f,t]] (.ops [
  ⟨some [t,f,t,t],.idxSl 1 (.s [t,f,f,t]) (.s [t,t,f,t]),none⟩,
  ⟨some [f,t,t,t],.load none (.s [t,f,t,t]),none⟩,
  ⟨some [f,t,t],.move (.s [f,t,t,t]),none⟩]) : CCode)) false true
def c84_o7 : CCode:=(fun (f t : Bool) => (.trim [[f],[f,f],[t,t,f],[f,f,t],[f,t,t],[t,f,f,t],[f,t,f,t],[t,t,f,t]] (.ops [
  ⟨some [f,f,f,f,f],.move (.s [f]),none⟩,
  ⟨some [t,f,f,f,f],.move (.s [f,t,t]),none⟩,
  ⟨some [f,t,f,f,f],.move (.s [f,f]),none⟩,
  ⟨some [t,t,f,f,f],.bin .sub (.s [f,t,f,f,f]) (.c (.int .i64 1)),none⟩,
  ⟨some [f,f,t,f,f],.build [.int .i64 0,.int .i64 0] [(0,1,(.s [t,f,f,f,f])),(1,1,(.s [t,t,f,f,f]))],none⟩,
  ⟨some [t,f,t,f,f],.lookupA [.i .i64,.i .i64] (.int .i64 0) t (.s [f,f,f,f,f]) (.s [f,f,t,f,f]),none⟩,
  ⟨some [t,t,t,t],.move (.s [t,f,t,f,f]),none⟩,
  ⟨some [f,t,t,f,f],.extract 0 (.s [t,t,t,t]),none⟩,
  ⟨some [t,t,t,f,f],.extract 1 (.s [t,t,t,t]),none⟩,
  ⟨some [t,t,t],.move (.s [f,t,t,f,f]),none⟩,
  ⟨some [f,f,f,f],.move (.s [t,t,t,f,f]),none⟩]) : CCode)) false true
def c84_o8 : CCode:=(fun (f t : Bool) => (.trim [[f],[f,f],[t,t,f],[f,f,t],[t,t,t],[f,f,f,f],[t,f,f,t],[f,t,f,t],[t,t,f,t]] (.ops [
  ⟨some [f,f,f,t,f],.move (.s [f,f,f,f]),none⟩,
  ⟨some [t,f,f,t,f],.move (.s [f,f,f,t,f]),none⟩,
  ⟨some [f,t,f,t,f],.move (.s [f,f,t]),some ([t,f,f,t,f],t)⟩,
  ⟨some [t,t,f,t,f],.un .not (.s [f,t,f,t,f]),some ([t,f,f,t,f],t)⟩,
  ⟨some [f,f,t,t,f],.move (.s [t,t,f,t,f]),some ([t,f,f,t,f],t)⟩,
  ⟨some [t,f,t,t,f],.move (.s [t,t,t]),some ([f,f,t,t,f],f)⟩,
  ⟨some [f,t,t,t,f],.move (.s [t,t,f]),some ([f,f,t,t,f],f)⟩,
  ⟨some [t,t,t,t,f],.bin .gtr (.s [t,f,t,t,f]) (.s [f,t,t,t,f]),some ([f,f,t,t,f],f)⟩,
  ⟨some [f,f,f,f,t],.pick (.s [f,f,t,t,f]) (.c (.bool t)) (.s [t,t,t,t,f]),some ([t,f,f,t,f],t)⟩,
  ⟨some [t,f,f,f,t],.pick (.s [t,f,f,t,f]) (.s [f,f,f,f,t]) (.c (.bool f)),none⟩]) : CCode)) false true
def c84_o9 : CCode:=(fun (f t : Bool) => (.trim [[f],[f,f],[t,t,t],[t,f,f,t],[f,t,f,t],[t,t,f,t]] (.ops [
  ⟨some [f,t,f,f,t],.move (.s [t,t,t]),none⟩,
  ⟨some [t,t,f],.move (.s [f,t,f,f,t]),none⟩,
  ⟨some [f,f,t],.move (.c (.bool t)),none⟩]) : CCode)) false true
def c84_o10 : CCode:=(fun (f t : Bool) => (.trim [[f],[f,f],[t,t,f],[f,f,t],[t,f,f,t],[f,t,f,t],[t,t,f,t]] (.ops [
  ⟨some [t,t,f,f,t],.bin .add (.s [t,t,f,t]) (.c (.int .i64 1)),none⟩,
  ⟨some [t,t,f,t],.move (.s [t,t,f,f,t]),none⟩]) : CCode)) false true
def c84_b0 : CCode:=(fun (f t : Bool) => ((.seq c84_o5
 (.seq (.cond (.s [f,f,t,t]) .skip (.exit 0))
 (.seq (.block 1 (.seq c84_o6
 (.seq c84_o7
 (.seq c84_o8
 (.cond (.s [t,f,f,f,t]) c84_o9 .skip)))))
 c84_o10))) : CCode)) false true
def c84_l0 : CCode:=(fun (f t : Bool) => (.loop [[f],[f,f],[t,t,f],[f,f,t],[t,f,f,t],[f,t,f,t],[t,t,f,t]] c84_b0 : CCode)) false true
def c84_o11 : CCode:=(fun (f t : Bool) => (.trim [[t,t,f],[f,f,t]] (.ops [
  ⟨some [f,f,t,f,t],.move (.s [t,t,f]),none⟩,
  ⟨some [t,f,t,f,t],.move (.s [f,f,t]),none⟩,
  ⟨some [t,f,f],.move (.s [f,f,t,f,t]),none⟩,
  ⟨some [f,t,f],.move (.s [t,f,t,f,t]),none⟩]) : CCode)) false true
def c84 : CFunc:=(fun (f t : Bool) => ({ params:=[[],[f],[t],[f,f]],results:=[.slot [t,f,f],.slot [f,t,f]],shared:=f,body:=(.seq c84_o0
 (.seq (.seq c84_o1
 (.cond (.s [f,t,f,f]) (.seq c84_o2
 .ret) .skip))
 (.seq c84_o3
 (.seq (.seq c84_o4
 (.block 0 c84_l0))
 (.seq c84_o11
 .ret))))) } : CFunc)) false true
end Go.Proofs.Ytljgfdamdcikgaa.Ev
