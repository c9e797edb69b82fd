/-
  The code of the program's functions as the evaluator takes it,printed by wip/tool/emit.py. SCheck ties each to the translation. No condition.
-/
import Derived.Test.YtljgfdamdcikgaaEv
open Bool renaming true → t, false → f
open Option renaming some → S, none → o
namespace Go.Proofs.Ytljgfdamdcikgaa.Ev
open Go Go.AEv
open COp renaming move → m
set_option linter.unusedVariables false
private abbrev r:=List.range
def c3_o0 : CCode:=(.trim [[],[f],[t]] (.ops [
  ⟨S [f,f],.box o (.s []),o⟩,
  ⟨S [t,t],m (.c (.bool f)),o⟩]))
def c3_o1 : CCode:=(.trim [[f],[t],[f,f]] (.ops [
  ⟨S [t,f,f,f],.load (S 3) (.s [f,f]),o⟩,
  ⟨S [f,t,f,f],.call f (.c (.func 18 [])) [(.s [t,f,f,f])],o⟩,
  ⟨S [f,f,f],.alloc o [.int .i64 0,.nils,.nils],o⟩,
  ⟨o,.store 3 (.s [f,f,f]) (.s [f,t,f,f]),o⟩]))
def c3_o2 : CCode:=(.trim [[f],[t],[f,f,f]] (.ops [
  ⟨S [t,t,f,f],m (.s [f]),o⟩,
  ⟨S [f,f,t,f],.call f (.c (.func 19 [])) [(.s [t,t,f,f]),(.c (.int .i64 5))],o⟩,
  ⟨S [t,f,t,f],.bin .add (.c (.int .i64 1)) (.s [f,f,t,f]),o⟩,
  ⟨S [f,t,t,f],m (.s [t]),o⟩,
  ⟨S [t,t,t,f],.call f (.c (.func 19 [])) [(.s [f,t,t,f]),(.c (.int .i64 5))],o⟩,
  ⟨S [f,f,f,t],.bin .add (.c (.int .i64 1)) (.s [t,t,t,f]),o⟩,
  ⟨S [f],m (.s [t,f,t,f]),o⟩,
  ⟨S [t],m (.s [f,f,f,t]),o⟩]))
def c3_o3 : CCode:=(.trim [[f],[t],[f,f,f]] (.ops [
  ⟨S [f,t,f,t],.load (S 3) (.s [f,f,f]),o⟩,
  ⟨S [t,t,f,t],.call f (.c (.func 20 [])) [(.s [f,t,f,t])],o⟩,
  ⟨S [t,f,f,t],m (.s [t,t,f,t]),o⟩,
  ⟨S [f,f,t,t],.extract 0 (.s [t,f,f,t]),o⟩,
  ⟨S [t,f,t,t],.extract 1 (.s [t,f,f,t]),o⟩,
  ⟨S [t,f,f],.alloc o [.int .i64 0,.nils,.nils],o⟩,
  ⟨o,.store 3 (.s [t,f,f]) (.s [f,f,t,t]),o⟩,
  ⟨S [f,t,f],m (.s [t,f,t,t]),o⟩]))
def c3_o4 : CCode:=(.trim [[f],[t],[f,f,f],[t,f,f],[f,t,f]] (.ops [
  ⟨S [t,t,t,t],.load (S 3) (.s [t,f,f]),o⟩,
  ⟨S [f,f,f,f,f],.call f (.c (.func 20 [])) [(.s [t,t,t,t])],o⟩,
  ⟨S [f,t,t,t],m (.s [f,f,f,f,f]),o⟩,
  ⟨S [t,f,f,f,f],.extract 0 (.s [f,t,t,t]),o⟩,
  ⟨S [f,t,f,f,f],.extract 1 (.s [f,t,t,t]),o⟩,
  ⟨S [t,t,f],.alloc o [.int .i64 0,.nils,.nils],o⟩,
  ⟨o,.store 3 (.s [t,t,f]) (.s [t,f,f,f,f]),o⟩,
  ⟨S [f,f,t],m (.s [f,t,f,f,f]),o⟩]))
def c3_o5 : CCode:=(.trim [[f],[t],[f,f,f],[t,f,f],[f,t,f],[t,t,f],[f,f,t]] (.ops [
  ⟨S [f,f,t,f,f],.load (S 3) (.s [f,f,f]),o⟩,
  ⟨S [t,f,t,f,f],m (.s [f]),o⟩,
  ⟨S [f,t,t,f,f],m (.s [t]),o⟩,
  ⟨S [t,t,t,f,f],.call f (.c (.func 21 [])) [(.s [f,f,t,f,f]),(.s [t,f,t,f,f]),(.s [f,t,t,f,f])],o⟩,
  ⟨S [t,t,f,f,f],m (.s [t,t,t,f,f]),o⟩,
  ⟨S [f,f,f,t,f],.extract 0 (.s [t,t,f,f,f]),o⟩,
  ⟨S [t,f,f,t,f],.extract 1 (.s [t,t,f,f,f]),o⟩,
  ⟨S [t,f,t],m (.s [f,f,f,t,f]),o⟩,
  ⟨S [f,t,t],m (.s [t,f,f,t,f]),o⟩]))
def c3_o6 : CCode:=(.trim [[f],[t],[f,f,f],[t,f,f],[f,t,f],[t,t,f],[f,f,t],[t,f,t],[f,t,t]] (.ops [
  ⟨S [t,t,f,t,f],.load (S 3) (.s [t,f,f]),o⟩,
  ⟨S [f,f,t,t,f],m (.s [t]),o⟩,
  ⟨S [t,f,t,t,f],m (.s [f]),o⟩,
  ⟨S [f,t,t,t,f],.call f (.c (.func 21 [])) [(.s [t,t,f,t,f]),(.s [f,f,t,t,f]),(.s [t,f,t,t,f])],o⟩,
  ⟨S [f,t,f,t,f],m (.s [f,t,t,t,f]),o⟩,
  ⟨S [t,t,t,t,f],.extract 0 (.s [f,t,f,t,f]),o⟩,
  ⟨S [f,f,f,f,t],.extract 1 (.s [f,t,f,t,f]),o⟩,
  ⟨S [t,t,t],m (.s [t,t,t,t,f]),o⟩,
  ⟨S [f,f,f,f],m (.s [f,f,f,f,t]),o⟩]))
def c3_o7 : CCode:=(.trim [[f,f,f],[f,t,f],[t,t,f],[f,f,t],[t,f,t],[f,t,t],[t,t,t],[f,f,f,f]] (.ops [
  ⟨S [t,f,f,f,t],m (.s [f,t,f]),o⟩,
  ⟨S [f,t,f,f,t],.bin .eql (.s [t,f,f,f,t]) (.c (.int .i64 0)),o⟩,
  ⟨S [t,t,f,f,t],m (.s [f,t,f,f,t]),o⟩,
  ⟨S [f,f,t,f,t],m (.s [f,f,t]),S ([t,t,f,f,t],t)⟩,
  ⟨S [t,f,t,f,t],.bin .eql (.s [f,f,t,f,t]) (.c (.int .i64 0)),S ([t,t,f,f,t],t)⟩,
  ⟨S [f,t,t,f,t],.pick (.s [t,t,f,f,t]) (.s [t,f,t,f,t]) (.c (.bool f)),o⟩,
  ⟨S [t,t,t,f,t],m (.s [f,t,t,f,t]),o⟩,
  ⟨S [f,f,f,t,t],m (.s [f,t,t]),S ([t,t,t,f,t],t)⟩,
  ⟨S [t,f,f,t,t],.bin .eql (.s [f,f,f,t,t]) (.c (.int .i64 0)),S ([t,t,t,f,t],t)⟩,
  ⟨S [f,t,f,t,t],.pick (.s [t,t,t,f,t]) (.s [t,f,f,t,t]) (.c (.bool f)),o⟩,
  ⟨S [t,t,f,t,t],m (.s [f,t,f,t,t]),o⟩,
  ⟨S [f,f,t,t,t],m (.s [f,f,f,f]),S ([t,t,f,t,t],t)⟩,
  ⟨S [t,f,t,t,t],.bin .eql (.s [f,f,t,t,t]) (.c (.int .i64 0)),S ([t,t,f,t,t],t)⟩,
  ⟨S [f,t,t,t,t],.pick (.s [t,t,f,t,t]) (.s [t,f,t,t,t]) (.c (.bool f)),o⟩,
  ⟨S [t,t,t,t,t],m (.s [f,t,t,t,t]),o⟩,
  ⟨S [f,f,f,f,f,f],m (.s [t,f,t]),S ([t,t,t,t,t],t)⟩,
  ⟨S [t,f,f,f,f,f],m (.s [t,t,t]),S ([t,t,t,t,t],t)⟩,
  ⟨S [f,t,f,f,f,f],.bin .eql (.s [f,f,f,f,f,f]) (.s [t,f,f,f,f,f]),S ([t,t,t,t,t],t)⟩,
  ⟨S [t,t,f,f,f,f],.pick (.s [t,t,t,t,t]) (.s [f,t,f,f,f,f]) (.c (.bool f)),o⟩,
  ⟨S [f,f,t,f,f,f],m (.s [t,t,f,f,f,f]),o⟩,
  ⟨S [t,f,t,f,f,f],.fieldAddr 0 (.s [t,t,f]),S ([f,f,t,f,f,f],t)⟩,
  ⟨S [f,t,t,f,f,f],.load o (.s [t,f,t,f,f,f]),S ([f,f,t,f,f,f],t)⟩,
  ⟨S [t,t,t,f,f,f],.fieldAddr 0 (.s [f,f,f]),S ([f,f,t,f,f,f],t)⟩,
  ⟨S [f,f,f,t,f,f],.load o (.s [t,t,t,f,f,f]),S ([f,f,t,f,f,f],t)⟩,
  ⟨S [t,f,f,t,f,f],.bin .eql (.s [f,t,t,f,f,f]) (.s [f,f,f,t,f,f]),S ([f,f,t,f,f,f],t)⟩,
  ⟨S [f,t,f,t,f,f],.pick (.s [f,f,t,f,f,f]) (.s [t,f,f,t,f,f]) (.c (.bool f)),o⟩,
  ⟨S [t,t,f,t,f,f],m (.s [f,t,f,t,f,f]),o⟩,
  ⟨S [f,f,t,t,f,f],.fieldAddr 1 (.s [t,t,f]),S ([t,t,f,t,f,f],t)⟩,
  ⟨S [t,f,t,t,f,f],.load o (.s [f,f,t,t,f,f]),S ([t,t,f,t,f,f],t)⟩,
  ⟨S [f,t,t,t,f,f],.fieldAddr 1 (.s [f,f,f]),S ([t,t,f,t,f,f],t)⟩,
  ⟨S [t,t,t,t,f,f],.load o (.s [f,t,t,t,f,f]),S ([t,t,f,t,f,f],t)⟩,
  ⟨S [f,f,f,f,t,f],.call f (.c (.func 22 [])) [(.s [t,f,t,t,f,f]),(.s [t,t,t,t,f,f])],S ([t,t,f,t,f,f],t)⟩,
  ⟨S [t,f,f,f,t,f],.pick (.s [t,t,f,t,f,f]) (.s [f,f,f,f,t,f]) (.c (.bool f)),o⟩,
  ⟨S [f,t,f,f,t,f],m (.s [t,f,f,f,t,f]),o⟩,
  ⟨S [t,t,f,f,t,f],.fieldAddr 2 (.s [t,t,f]),S ([f,t,f,f,t,f],t)⟩,
  ⟨S [f,f,t,f,t,f],.load o (.s [t,t,f,f,t,f]),S ([f,t,f,f,t,f],t)⟩,
  ⟨S [t,f,t,f,t,f],.fieldAddr 2 (.s [f,f,f]),S ([f,t,f,f,t,f],t)⟩,
  ⟨S [f,t,t,f,t,f],.load o (.s [t,f,t,f,t,f]),S ([f,t,f,f,t,f],t)⟩,
  ⟨S [t,t,t,f,t,f],.call f (.c (.func 22 [])) [(.s [f,f,t,f,t,f]),(.s [f,t,t,f,t,f])],S ([f,t,f,f,t,f],t)⟩,
  ⟨S [f,f,f,t,t,f],.pick (.s [f,t,f,f,t,f]) (.s [t,t,t,f,t,f]) (.c (.bool f)),o⟩,
  ⟨S [t,f,f,t,t,f],m (.s [f,f,f,t,t,f]),o⟩,
  ⟨S [f,t,f,t,t,f],.call f (.c (.func 23 [])) [],S ([t,f,f,t,t,f],t)⟩,
  ⟨S [t,t,f,t,t,f],.pick (.s [t,f,f,t,t,f]) (.s [f,t,f,t,t,f]) (.c (.bool f)),o⟩,
  ⟨S [t,t],m (.s [t,t,f,t,t,f]),o⟩]))
def c3 : CFunc:=({ params:=[[],[f],[t]],results:=[.slot [t,t]],shared:=f,body:=(.seq c3_o0
 (.seq c3_o1
 (.seq c3_o2
 (.seq c3_o3
 (.seq c3_o4
 (.seq c3_o5
 (.seq c3_o6
 (.seq c3_o7
 .ret)))))))) })
def c4_o0 : CCode:=(.trim [[],[f]] (.ops [
  ⟨S [t],.box o (.s []),o⟩,
  ⟨S [t,f],m (.c (.bool f)),o⟩]))
def c4_o1 : CCode:=(.trim [[f],[t]] (.ops [
  ⟨S [t,f,t],.load (S 3) (.s [t]),o⟩,
  ⟨S [f,t,t],.call f (.c (.func 24 [])) [(.s [t,f,t])],o⟩,
  ⟨S [f,t],.alloc o [.int .i64 0,.nils,.nils],o⟩,
  ⟨o,.store 3 (.s [f,t]) (.s [f,t,t]),o⟩]))
def c4_o2 : CCode:=(.trim [[f],[f,t]] (.ops [
  ⟨S [f,f,f,f],.load (S 3) (.s [f,t]),o⟩,
  ⟨S [t,f,f,f],m (.s [f]),o⟩,
  ⟨S [f,t,f,f],.call f (.c (.func 25 [])) [(.s [f,f,f,f]),(.s [t,f,f,f])],o⟩,
  ⟨S [t,t,t],m (.s [f,t,f,f]),o⟩,
  ⟨S [t,t,f,f],.extract 0 (.s [t,t,t]),o⟩,
  ⟨S [f,f,t,f],.extract 1 (.s [t,t,t]),o⟩,
  ⟨S [t,t],m (.s [t,t,f,f]),o⟩,
  ⟨S [f,f,f],m (.s [f,f,t,f]),o⟩]))
def c4_o3 : CCode:=(.trim [[f],[f,t],[t,t],[f,f,f]] (.ops [
  ⟨S [f,t,t,f],.load (S 3) (.s [f,t]),o⟩,
  ⟨S [t,t,t,f],m (.s [f]),o⟩,
  ⟨S [f,f,f,t],.call f (.c (.func 26 [])) [(.s [f,t,t,f]),(.s [t,t,t,f])],o⟩,
  ⟨S [t,f,t,f],m (.s [f,f,f,t]),o⟩,
  ⟨S [t,f,f,t],.extract 0 (.s [t,f,t,f]),o⟩,
  ⟨S [f,t,f,t],.extract 1 (.s [t,f,t,f]),o⟩,
  ⟨S [t,f,f],m (.s [t,f,f,t]),o⟩,
  ⟨S [f,t,f],m (.s [f,t,f,t]),o⟩]))
def c4_o4 : CCode:=(.trim [[f],[f,t],[t,t],[f,f,f],[t,f,f],[f,t,f]] (.ops [
  ⟨S [f,f,t,t],.load (S 3) (.s [f,t]),o⟩,
  ⟨S [t,f,t,t],.call f (.c (.func 20 [])) [(.s [f,f,t,t])],o⟩,
  ⟨S [t,t,f,t],m (.s [t,f,t,t]),o⟩,
  ⟨S [f,t,t,t],.extract 0 (.s [t,t,f,t]),o⟩,
  ⟨S [t,t,t,t],.extract 1 (.s [t,t,f,t]),o⟩,
  ⟨S [t,t,f],.alloc o [.int .i64 0,.nils,.nils],o⟩,
  ⟨o,.store 3 (.s [t,t,f]) (.s [f,t,t,t]),o⟩,
  ⟨S [f,f,t],m (.s [t,t,t,t]),o⟩]))
def c4_o5 : CCode:=(.trim [[f],[f,t],[t,t],[f,f,f],[t,f,f],[f,t,f],[t,t,f],[f,f,t]] (.ops [
  ⟨S [f,f,f,f,f],.load (S 3) (.s [f,t]),o⟩,
  ⟨S [t,f,f,f,f],.call f (.c (.func 27 [])) [(.s [f,f,f,f,f])],o⟩,
  ⟨S [f,t,f,f,f],.un .not (.s [t,f,f,f,f]),o⟩]))
def c4_o6 : CCode:=(.trim [[f],[f,t],[t,t],[f,f,f],[t,f,f],[f,t,f],[t,t,f],[f,f,t]] (.ops [
  ⟨S [t,t,f,f,f],.fieldAddr 0 (.s [t,t,f]),o⟩,
  ⟨S [f,f,t,f,f],.load o (.s [t,t,f,f,f]),o⟩,
  ⟨S [t,f,t,f,f],.bin .neq (.s [f,f,t,f,f]) (.c (.int .i64 0)),o⟩,
  ⟨S [f,t,t,f,f],m (.s [t,f,t,f,f]),o⟩,
  ⟨S [t,t,t,f,f],.fieldAddr 1 (.s [t,t,f]),S ([f,t,t,f,f],f)⟩,
  ⟨S [f,f,f,t,f],.load o (.s [t,t,t,f,f]),S ([f,t,t,f,f],f)⟩,
  ⟨S [t,f,f,t,f],.len 1 (.s [f,f,f,t,f]),S ([f,t,t,f,f],f)⟩,
  ⟨S [f,t,f,t,f],.bin .neq (.s [t,f,f,t,f]) (.c (.int .i64 0)),S ([f,t,t,f,f],f)⟩,
  ⟨S [t,t,f,t,f],.pick (.s [f,t,t,f,f]) (.c (.bool t)) (.s [f,t,f,t,f]),o⟩,
  ⟨S [f,f,t,t,f],m (.s [t,t,f,t,f]),o⟩,
  ⟨S [t,f,t,t,f],.fieldAddr 2 (.s [t,t,f]),S ([f,f,t,t,f],f)⟩,
  ⟨S [f,t,t,t,f],.load o (.s [t,f,t,t,f]),S ([f,f,t,t,f],f)⟩,
  ⟨S [t,t,t,t,f],.len 1 (.s [f,t,t,t,f]),S ([f,f,t,t,f],f)⟩,
  ⟨S [f,f,f,f,t],.bin .neq (.s [t,t,t,t,f]) (.c (.int .i64 0)),S ([f,f,t,t,f],f)⟩,
  ⟨S [t,f,f,f,t],.pick (.s [f,f,t,t,f]) (.c (.bool t)) (.s [f,f,f,f,t]),o⟩,
  ⟨S [f,t,f,f,t],m (.s [t,f,f,f,t]),o⟩,
  ⟨S [t,t,f,f,t],m (.s [f,f,t]),S ([f,t,f,f,t],f)⟩,
  ⟨S [f,f,t,f,t],.bin .neq (.s [t,t,f,f,t]) (.c (.int .i64 2)),S ([f,t,f,f,t],f)⟩,
  ⟨S [t,f,t,f,t],.pick (.s [f,t,f,f,t]) (.c (.bool t)) (.s [f,f,t,f,t]),o⟩]))
def c4_o7 : CCode:=(.trim [] (.ops [
  ⟨S [t,f],m (.c (.bool f)),o⟩]))
def c4_o8 : CCode:=(.trim [[f],[f,t],[t,t],[f,f,f],[t,f,f],[f,t,f],[t,t,f],[f,f,t]] (.ops [
  ⟨S [f,t,t,f,t],.fieldAddr 0 (.s [t,t,f]),o⟩,
  ⟨S [t,t,t,f,t],.load o (.s [f,t,t,f,t]),o⟩,
  ⟨S [f,f,f,t,t],.fieldAddr 0 (.s [f,t]),o⟩,
  ⟨S [t,f,f,t,t],.load o (.s [f,f,f,t,t]),o⟩,
  ⟨S [f,t,f,t,t],.bin .neq (.s [t,t,t,f,t]) (.s [t,f,f,t,t]),o⟩,
  ⟨S [t,t,f,t,t],m (.s [f,t,f,t,t]),o⟩,
  ⟨S [f,f,t,t,t],.fieldAddr 1 (.s [t,t,f]),S ([t,t,f,t,t],f)⟩,
  ⟨S [t,f,t,t,t],.load o (.s [f,f,t,t,t]),S ([t,t,f,t,t],f)⟩,
  ⟨S [f,t,t,t,t],.fieldAddr 2 (.s [f,t]),S ([t,t,f,t,t],f)⟩,
  ⟨S [t,t,t,t,t],.load o (.s [f,t,t,t,t]),S ([t,t,f,t,t],f)⟩,
  ⟨S [f,f,f,f,f,f],.call f (.c (.func 22 [])) [(.s [t,f,t,t,t]),(.s [t,t,t,t,t])],S ([t,t,f,t,t],f)⟩,
  ⟨S [t,f,f,f,f,f],.un .not (.s [f,f,f,f,f,f]),S ([t,t,f,t,t],f)⟩,
  ⟨S [f,t,f,f,f,f],.pick (.s [t,t,f,t,t]) (.c (.bool t)) (.s [t,f,f,f,f,f]),o⟩,
  ⟨S [t,t,f,f,f,f],m (.s [f,t,f,f,f,f]),o⟩,
  ⟨S [f,f,t,f,f,f],.fieldAddr 2 (.s [t,t,f]),S ([t,t,f,f,f,f],f)⟩,
  ⟨S [t,f,t,f,f,f],.load o (.s [f,f,t,f,f,f]),S ([t,t,f,f,f,f],f)⟩,
  ⟨S [f,t,t,f,f,f],.fieldAddr 1 (.s [f,t]),S ([t,t,f,f,f,f],f)⟩,
  ⟨S [t,t,t,f,f,f],.load o (.s [f,t,t,f,f,f]),S ([t,t,f,f,f,f],f)⟩,
  ⟨S [f,f,f,t,f,f],.call f (.c (.func 22 [])) [(.s [t,f,t,f,f,f]),(.s [t,t,t,f,f,f])],S ([t,t,f,f,f,f],f)⟩,
  ⟨S [t,f,f,t,f,f],.un .not (.s [f,f,f,t,f,f]),S ([t,t,f,f,f,f],f)⟩,
  ⟨S [f,t,f,t,f,f],.pick (.s [t,t,f,f,f,f]) (.c (.bool t)) (.s [t,f,f,t,f,f]),o⟩,
  ⟨S [t,t,f,t,f,f],m (.s [f,t,f,t,f,f]),o⟩,
  ⟨S [f,f,t,t,f,f],m (.s [f,f,t]),S ([t,t,f,t,f,f],f)⟩,
  ⟨S [t,f,t,t,f,f],.bin .neq (.s [f,f,t,t,f,f]) (.c (.int .i64 0)),S ([t,t,f,t,f,f],f)⟩,
  ⟨S [f,t,t,t,f,f],.pick (.s [t,t,f,t,f,f]) (.c (.bool t)) (.s [t,f,t,t,f,f]),o⟩]))
def c4_o9 : CCode:=(.trim [] (.ops [
  ⟨S [t,f],m (.c (.bool f)),o⟩]))
def c4_o10 : CCode:=(.trim [[f],[f,t],[t,t],[f,f,f],[t,f,f],[f,t,f]] (.ops [
  ⟨S [t,t,t,t,f,f],.load (S 3) (.s [f,t]),o⟩,
  ⟨S [f,f,f,f,t,f],m (.s [f]),o⟩,
  ⟨S [t,f,f,f,t,f],.call f (.c (.func 28 [])) [(.s [t,t,t,t,f,f]),(.s [f,f,f,f,t,f])],o⟩,
  ⟨S [f,t,f,f,t,f],.un .not (.s [t,f,f,f,t,f]),o⟩]))
def c4_o11 : CCode:=(.trim [[t,t],[f,f,f],[t,f,f],[f,t,f]] (.ops [
  ⟨S [t,t,f,f,t,f],m (.s [t,t]),o⟩,
  ⟨S [f,f,t,f,t,f],.len 1 (.s [t,t,f,f,t,f]),o⟩,
  ⟨S [t,f,t,f,t,f],.bin .eql (.s [f,f,t,f,t,f]) (.c (.int .i64 0)),o⟩,
  ⟨S [f,t,t,f,t,f],m (.s [t,f,t,f,t,f]),o⟩,
  ⟨S [t,t,t,f,t,f],m (.s [f,f,f]),S ([f,t,t,f,t,f],t)⟩,
  ⟨S [f,f,f,t,t,f],.bin .eql (.s [t,t,t,f,t,f]) (.c (.int .i64 2)),S ([f,t,t,f,t,f],t)⟩,
  ⟨S [t,f,f,t,t,f],.pick (.s [f,t,t,f,t,f]) (.s [f,f,f,t,t,f]) (.c (.bool f)),o⟩,
  ⟨S [f,t,f,t,t,f],m (.s [t,f,f,t,t,f]),o⟩,
  ⟨S [t,t,f,t,t,f],m (.s [t,f,f]),S ([f,t,f,t,t,f],t)⟩,
  ⟨S [f,f,t,t,t,f],.len 1 (.s [t,t,f,t,t,f]),S ([f,t,f,t,t,f],t)⟩,
  ⟨S [t,f,t,t,t,f],.bin .eql (.s [f,f,t,t,t,f]) (.c (.int .i64 0)),S ([f,t,f,t,t,f],t)⟩,
  ⟨S [f,t,t,t,t,f],.pick (.s [f,t,f,t,t,f]) (.s [t,f,t,t,t,f]) (.c (.bool f)),o⟩,
  ⟨S [t,t,t,t,t,f],m (.s [f,t,t,t,t,f]),o⟩,
  ⟨S [f,f,f,f,f,t],m (.s [f,t,f]),S ([t,t,t,t,t,f],t)⟩,
  ⟨S [t,f,f,f,f,t],.bin .eql (.s [f,f,f,f,f,t]) (.c (.int .i64 2)),S ([t,t,t,t,t,f],t)⟩,
  ⟨S [f,t,f,f,f,t],.pick (.s [t,t,t,t,t,f]) (.s [t,f,f,f,f,t]) (.c (.bool f)),o⟩,
  ⟨S [t,t,f,f,f,t],m (.s [f,t,f,f,f,t]),o⟩,
  ⟨S [f,f,t,f,f,t],.call f (.c (.func 23 [])) [],S ([t,t,f,f,f,t],t)⟩,
  ⟨S [t,f,t,f,f,t],.pick (.s [t,t,f,f,f,t]) (.s [f,f,t,f,f,t]) (.c (.bool f)),o⟩,
  ⟨S [t,f],m (.s [t,f,t,f,f,t]),o⟩]))
def c4_o12 : CCode:=(.trim [[f],[f,t],[t,t],[f,f,f],[t,f,f],[f,t,f]] (.ops [
  ⟨S [f,t,t,f,f,t],m (.s [t,t]),o⟩,
  ⟨S [t,t,t,f,f,t],.load (S 3) (.s [f,t]),o⟩,
  ⟨S [f,f,f,t,f,t],m (.s [f]),o⟩,
  ⟨S [t,f,f,t,f,t],.call f (.c (.func 30 [])) [(.s [t,t,t,f,f,t]),(.s [f,f,f,t,f,t])],o⟩,
  ⟨S [f,t,f,t,f,t],.call f (.c (.func 29 [])) [(.s [f,t,t,f,f,t]),(.s [t,f,f,t,f,t])],o⟩,
  ⟨S [t,t,f,t,f,t],m (.s [f,t,f,t,f,t]),o⟩,
  ⟨S [f,f,t,t,f,t],m (.s [f,f,f]),S ([t,t,f,t,f,t],t)⟩,
  ⟨S [t,f,t,t,f,t],.bin .eql (.s [f,f,t,t,f,t]) (.c (.int .i64 0)),S ([t,t,f,t,f,t],t)⟩,
  ⟨S [f,t,t,t,f,t],.pick (.s [t,t,f,t,f,t]) (.s [t,f,t,t,f,t]) (.c (.bool f)),o⟩,
  ⟨S [t,t,t,t,f,t],m (.s [f,t,t,t,f,t]),o⟩,
  ⟨S [f,f,f,f,t,t],m (.s [t,f,f]),S ([t,t,t,t,f,t],t)⟩,
  ⟨S [t,f,f,f,t,t],.load (S 3) (.s [f,t]),S ([t,t,t,t,f,t],t)⟩,
  ⟨S [f,t,f,f,t,t],m (.s [f]),S ([t,t,t,t,f,t],t)⟩,
  ⟨S [t,t,f,f,t,t],.call f (.c (.func 31 [])) [(.s [t,f,f,f,t,t]),(.s [f,t,f,f,t,t])],S ([t,t,t,t,f,t],t)⟩,
  ⟨S [f,f,t,f,t,t],.call f (.c (.func 22 [])) [(.s [f,f,f,f,t,t]),(.s [t,t,f,f,t,t])],S ([t,t,t,t,f,t],t)⟩,
  ⟨S [t,f,t,f,t,t],.pick (.s [t,t,t,t,f,t]) (.s [f,f,t,f,t,t]) (.c (.bool f)),o⟩,
  ⟨S [f,t,t,f,t,t],m (.s [t,f,t,f,t,t]),o⟩,
  ⟨S [t,t,t,f,t,t],m (.s [f,t,f]),S ([f,t,t,f,t,t],t)⟩,
  ⟨S [f,f,f,t,t,t],.bin .eql (.s [t,t,t,f,t,t]) (.c (.int .i64 0)),S ([f,t,t,f,t,t],t)⟩,
  ⟨S [t,f,f,t,t,t],.pick (.s [f,t,t,f,t,t]) (.s [f,f,f,t,t,t]) (.c (.bool f)),o⟩,
  ⟨S [f,t,f,t,t,t],m (.s [t,f,f,t,t,t]),o⟩,
  ⟨S [t,t,f,t,t,t],.call f (.c (.func 23 [])) [],S ([f,t,f,t,t,t],t)⟩,
  ⟨S [f,f,t,t,t,t],.pick (.s [f,t,f,t,t,t]) (.s [t,t,f,t,t,t]) (.c (.bool f)),o⟩,
  ⟨S [t,f],m (.s [f,f,t,t,t,t]),o⟩]))
def c4 : CFunc:=({ params:=[[],[f]],results:=[.slot [t,f]],shared:=f,body:=(.seq c4_o0
 (.seq c4_o1
 (.seq c4_o2
 (.seq c4_o3
 (.seq c4_o4
 (.seq (.seq c4_o5
 (.cond (.s [f,t,f,f,f]) (.seq c4_o6
 (.cond (.s [t,f,t,f,t]) (.seq c4_o7
 .ret) .skip)) (.seq c4_o8
 (.cond (.s [f,t,t,t,f,f]) (.seq c4_o9
 .ret) .skip))))
 (.seq (.seq c4_o10
 (.cond (.s [f,t,f,f,t,f]) (.seq c4_o11
 .ret) .skip))
 (.seq c4_o12
 .ret)))))))) })
def c5_o0 : CCode:=(.trim [[],[f]] (.ops [
  ⟨S [t],.box o (.s []),o⟩,
  ⟨S [f,f],.box o (.s [f]),o⟩,
  ⟨S [t,f],m (.c (.bool f)),o⟩]))
def c5_o1 : CCode:=(.trim [[t],[f,f]] (.ops [
  ⟨S [f,t,t],.load (S 3) (.s [t]),o⟩,
  ⟨S [t,t,t],.call f (.c (.func 24 [])) [(.s [f,t,t])],o⟩,
  ⟨S [f,t],.alloc o [.int .i64 0,.nils,.nils],o⟩,
  ⟨o,.store 3 (.s [f,t]) (.s [t,t,t]),o⟩]))
def c5_o2 : CCode:=(.trim [[f,f],[f,t]] (.draw 0 [
  ⟨S [f,f,f,f],.idxArr 3 1 (.s [f,f]) (.c (.int .i64 0)),o⟩,
  ⟨S [t,f,f,f],.load o (.s [f,f,f,f]),o⟩,
  ⟨S [f,t,f,f],.idxArr 3 1 (.s [f,f]) (.c (.int .i64 1)),o⟩,
  ⟨S [t,t,f,f],.load o (.s [f,t,f,f]),o⟩,
  ⟨S [f,f,t,f],.idxArr 3 1 (.s [f,f]) (.c (.int .i64 2)),o⟩,
  ⟨S [t,f,t,f],.load o (.s [f,f,t,f]),o⟩,
  ⟨S [t,t],m (.s [t,f,f,f]),o⟩,
  ⟨S [f,f,f],m (.s [t,t,f,f]),o⟩,
  ⟨S [t,f,f],m (.s [t,f,t,f]),o⟩]
  [(1,3),(1,5),(3,5)] [[],[0],[],[2],[],[4],[0,1],[0,1,2,3,6],(r 8)]))
def c5_o3 : CCode:=(.trim [[f,t],[t,t],[f,f,f],[t,f,f]] (.ops [
  ⟨S [t,t,t,f],.load (S 3) (.s [f,t]),o⟩,
  ⟨S [f,f,f,t],m (.s [t,t]),o⟩,
  ⟨S [t,f,f,t],m (.s [f,f,f]),o⟩,
  ⟨S [f,t,f,t],m (.s [t,f,f]),o⟩,
  ⟨S [t,t,f,t],.call f (.c (.func 32 [])) [(.s [t,t,t,f]),(.s [f,f,f,t]),(.s [t,f,f,t]),(.s [f,t,f,t])],o⟩,
  ⟨S [f,t,t,f],m (.s [t,t,f,t]),o⟩,
  ⟨S [f,f,t,t],.extract 0 (.s [f,t,t,f]),o⟩,
  ⟨S [t,f,t,t],.extract 1 (.s [f,t,t,f]),o⟩,
  ⟨S [f,t,f],m (.s [f,f,t,t]),o⟩,
  ⟨S [t,t,f],m (.s [t,f,t,t]),o⟩]))
def c5_o4 : CCode:=(.trim [[f,t],[t,t],[f,f,f],[t,f,f],[f,t,f],[t,t,f]] (.ops [
  ⟨S [f,t,t,t],.load (S 3) (.s [f,t]),o⟩,
  ⟨S [t,t,t,t],m (.s [t,t]),o⟩,
  ⟨S [f,f,f,f,f],.call f (.c (.func 28 [])) [(.s [f,t,t,t]),(.s [t,t,t,t])],o⟩,
  ⟨S [t,f,f,f,f],.un .not (.s [f,f,f,f,f]),o⟩,
  ⟨S [f,t,f,f,f],m (.s [t,f,f,f,f]),o⟩,
  ⟨S [t,t,f,f,f],m (.s [f,f,f]),S ([f,t,f,f,f],f)⟩,
  ⟨S [f,f,t,f,f],.bin .lss (.s [t,t,f,f,f]) (.c (.int .i64 0)),S ([f,t,f,f,f],f)⟩,
  ⟨S [t,f,t,f,f],.pick (.s [f,t,f,f,f]) (.c (.bool t)) (.s [f,f,t,f,f]),o⟩,
  ⟨S [f,t,t,f,f],m (.s [t,f,t,f,f]),o⟩,
  ⟨S [t,t,t,f,f],m (.s [f,f,f]),S ([f,t,t,f,f],f)⟩,
  ⟨S [f,f,f,t,f],.bin .gtr (.s [t,t,t,f,f]) (.c (.int .i64 40)),S ([f,t,t,f,f],f)⟩,
  ⟨S [t,f,f,t,f],.pick (.s [f,t,t,f,f]) (.c (.bool t)) (.s [f,f,f,t,f]),o⟩]))
def c5_o5 : CCode:=(.trim [[f,t,f],[t,t,f]] (.ops [
  ⟨S [f,t,f,t,f],m (.s [f,t,f]),o⟩,
  ⟨S [t,t,f,t,f],.len 1 (.s [f,t,f,t,f]),o⟩,
  ⟨S [f,f,t,t,f],.bin .eql (.s [t,t,f,t,f]) (.c (.int .i64 0)),o⟩,
  ⟨S [t,f,t,t,f],m (.s [f,f,t,t,f]),o⟩,
  ⟨S [f,t,t,t,f],m (.s [t,t,f]),S ([t,f,t,t,f],t)⟩,
  ⟨S [t,t,t,t,f],.bin .eql (.s [f,t,t,t,f]) (.c (.int .i64 2)),S ([t,f,t,t,f],t)⟩,
  ⟨S [f,f,f,f,t],.pick (.s [t,f,t,t,f]) (.s [t,t,t,t,f]) (.c (.bool f)),o⟩,
  ⟨S [t,f,f,f,t],m (.s [f,f,f,f,t]),o⟩,
  ⟨S [f,t,f,f,t],.call f (.c (.func 23 [])) [],S ([t,f,f,f,t],t)⟩,
  ⟨S [t,t,f,f,t],.pick (.s [t,f,f,f,t]) (.s [f,t,f,f,t]) (.c (.bool f)),o⟩,
  ⟨S [t,f],m (.s [t,t,f,f,t]),o⟩]))
def c5_o6 : CCode:=(.trim [[f,t],[t,t],[f,f,f],[t,f,f],[f,t,f],[t,t,f]] (.ops [
  ⟨S [t,f,t,f,t],.load (S 3) (.s [f,t]),o⟩,
  ⟨S [f,t,t,f,t],m (.s [t,t]),o⟩,
  ⟨S [t,t,t,f,t],m (.s [f,f,f]),o⟩,
  ⟨S [f,f,f,t,t],.call f (.c (.func 33 [])) [(.s [t,f,t,f,t]),(.s [f,t,t,f,t]),(.s [t,t,t,f,t])],o⟩,
  ⟨S [f,f,t,f,t],m (.s [f,f,f,t,t]),o⟩,
  ⟨S [t,f,f,t,t],.extract 0 (.s [f,f,t,f,t]),o⟩,
  ⟨S [f,t,f,t,t],.extract 1 (.s [f,f,t,f,t]),o⟩,
  ⟨S [f,f,t],m (.s [t,f,f,t,t]),o⟩,
  ⟨S [t,f,t],m (.s [f,t,f,t,t]),o⟩]))
def c5_o7 : CCode:=(.trim [[f,t],[t,t],[f,f,f],[t,f,f],[f,t,f],[t,t,f],[f,f,t],[t,f,t]] (.ops [
  ⟨S [t,t,f,t,t],m (.s [t,f,t]),o⟩,
  ⟨S [f,f,t,t,t],.un .not (.s [t,t,f,t,t]),o⟩]))
def c5_o8 : CCode:=(.trim [[f,t,f],[t,t,f]] (.ops [
  ⟨S [t,f,t,t,t],m (.s [f,t,f]),o⟩,
  ⟨S [f,t,t,t,t],.len 1 (.s [t,f,t,t,t]),o⟩,
  ⟨S [t,t,t,t,t],.bin .eql (.s [f,t,t,t,t]) (.c (.int .i64 0)),o⟩,
  ⟨S [f,f,f,f,f,f],m (.s [t,t,t,t,t]),o⟩,
  ⟨S [t,f,f,f,f,f],m (.s [t,t,f]),S ([f,f,f,f,f,f],t)⟩,
  ⟨S [f,t,f,f,f,f],.bin .eql (.s [t,f,f,f,f,f]) (.c (.int .i64 5)),S ([f,f,f,f,f,f],t)⟩,
  ⟨S [t,t,f,f,f,f],.pick (.s [f,f,f,f,f,f]) (.s [f,t,f,f,f,f]) (.c (.bool f)),o⟩,
  ⟨S [f,f,t,f,f,f],m (.s [t,t,f,f,f,f]),o⟩,
  ⟨S [t,f,t,f,f,f],.call f (.c (.func 23 [])) [],S ([f,f,t,f,f,f],t)⟩,
  ⟨S [f,t,t,f,f,f],.pick (.s [f,f,t,f,f,f]) (.s [t,f,t,f,f,f]) (.c (.bool f)),o⟩,
  ⟨S [t,f],m (.s [f,t,t,f,f,f]),o⟩]))
def c5_o9 : CCode:=(.trim [[f,t],[t,t],[f,f,f],[t,f,f],[f,t,f],[t,t,f],[f,f,t]] (.ops [
  ⟨S [t,t,t,f,f,f],m (.s [t,f,f]),o⟩,
  ⟨S [f,f,f,t,f,f],.bin .lss (.s [t,t,t,f,f,f]) (.c (.int .i64 0)),o⟩,
  ⟨S [t,f,f,t,f,f],m (.s [f,f,f,t,f,f]),o⟩,
  ⟨S [f,t,f,t,f,f],m (.s [t,f,f]),S ([t,f,f,t,f,f],f)⟩,
  ⟨S [t,t,f,t,f,f],m (.s [f,f,t]),S ([t,f,f,t,f,f],f)⟩,
  ⟨S [f,f,t,t,f,f],.bin .geq (.s [f,t,f,t,f,f]) (.s [t,t,f,t,f,f]),S ([t,f,f,t,f,f],f)⟩,
  ⟨S [t,f,t,t,f,f],.pick (.s [t,f,f,t,f,f]) (.c (.bool t)) (.s [f,f,t,t,f,f]),o⟩]))
def c5_o10 : CCode:=(.trim [[f,t,f],[t,t,f]] (.ops [
  ⟨S [f,t,t,t,f,f],m (.s [f,t,f]),o⟩,
  ⟨S [t,t,t,t,f,f],.len 1 (.s [f,t,t,t,f,f]),o⟩,
  ⟨S [f,f,f,f,t,f],.bin .eql (.s [t,t,t,t,f,f]) (.c (.int .i64 0)),o⟩,
  ⟨S [t,f,f,f,t,f],m (.s [f,f,f,f,t,f]),o⟩,
  ⟨S [f,t,f,f,t,f],m (.s [t,t,f]),S ([t,f,f,f,t,f],t)⟩,
  ⟨S [t,t,f,f,t,f],.bin .eql (.s [f,t,f,f,t,f]) (.c (.int .i64 2)),S ([t,f,f,f,t,f],t)⟩,
  ⟨S [f,f,t,f,t,f],.pick (.s [t,f,f,f,t,f]) (.s [t,t,f,f,t,f]) (.c (.bool f)),o⟩,
  ⟨S [t,f,t,f,t,f],m (.s [f,f,t,f,t,f]),o⟩,
  ⟨S [f,t,t,f,t,f],.call f (.c (.func 23 [])) [],S ([t,f,t,f,t,f],t)⟩,
  ⟨S [t,t,t,f,t,f],.pick (.s [t,f,t,f,t,f]) (.s [f,t,t,f,t,f]) (.c (.bool f)),o⟩,
  ⟨S [t,f],m (.s [t,t,t,f,t,f]),o⟩]))
def c5_o11 : CCode:=(.trim [[f,t],[t,t],[f,f,f],[t,f,f],[f,t,f],[t,t,f]] (.ops [
  ⟨S [f,f,f,t,t,f],m (.s [f,t,f]),o⟩,
  ⟨S [t,f,f,t,t,f],.load (S 3) (.s [f,t]),o⟩,
  ⟨S [f,t,f,t,t,f],m (.s [t,t]),o⟩,
  ⟨S [t,t,f,t,t,f],m (.s [f,f,f]),o⟩,
  ⟨S [f,f,t,t,t,f],m (.s [t,f,f]),o⟩,
  ⟨S [t,f,t,t,t,f],.call f (.c (.func 34 [])) [(.s [t,f,f,t,t,f]),(.s [f,t,f,t,t,f]),(.s [t,t,f,t,t,f]),(.s [f,f,t,t,t,f])],o⟩,
  ⟨S [f,t,t,t,t,f],.call f (.c (.func 29 [])) [(.s [f,f,f,t,t,f]),(.s [t,f,t,t,t,f])],o⟩,
  ⟨S [t,t,t,t,t,f],m (.s [f,t,t,t,t,f]),o⟩,
  ⟨S [f,f,f,f,f,t],m (.s [t,t,f]),S ([t,t,t,t,t,f],t)⟩,
  ⟨S [t,f,f,f,f,t],.bin .eql (.s [f,f,f,f,f,t]) (.c (.int .i64 0)),S ([t,t,t,t,t,f],t)⟩,
  ⟨S [f,t,f,f,f,t],.pick (.s [t,t,t,t,t,f]) (.s [t,f,f,f,f,t]) (.c (.bool f)),o⟩,
  ⟨S [t,t,f,f,f,t],m (.s [f,t,f,f,f,t]),o⟩,
  ⟨S [f,f,t,f,f,t],.call f (.c (.func 23 [])) [],S ([t,t,f,f,f,t],t)⟩,
  ⟨S [t,f,t,f,f,t],.pick (.s [t,t,f,f,f,t]) (.s [f,f,t,f,f,t]) (.c (.bool f)),o⟩,
  ⟨S [t,f],m (.s [t,f,t,f,f,t]),o⟩]))
def c5 : CFunc:=({ params:=[[],[f]],results:=[.slot [t,f]],shared:=f,body:=(.seq c5_o0
 (.seq c5_o1
 (.seq c5_o2
 (.seq c5_o3
 (.seq (.seq c5_o4
 (.cond (.s [t,f,f,t,f]) (.seq c5_o5
 .ret) .skip))
 (.seq c5_o6
 (.seq (.seq c5_o7
 (.cond (.s [f,f,t,t,t]) (.seq c5_o8
 .ret) .skip))
 (.seq (.seq c5_o9
 (.cond (.s [t,f,t,t,f,f]) (.seq c5_o10
 .ret) .skip))
 (.seq c5_o11
 .ret))))))))) })
def c17_o0 : CCode:=(.trim [[],[f],[t]] (.ops [
  ⟨S [f,f],.box o (.s []),o⟩,
  ⟨S [t,f],.box o (.s [f]),o⟩,
  ⟨S [t,t],m (.c (.bool f)),o⟩]))
def c17_o1 : CCode:=(.trim [[t],[f,f],[t,f]] (.ops [
  ⟨S [f,f,t,t],.load (S 3) (.s [f,f]),o⟩,
  ⟨S [t,f,t,t],.call f (.c (.func 18 [])) [(.s [f,f,t,t])],o⟩,
  ⟨S [f,f,f],.alloc o [.int .i64 0,.nils,.nils],o⟩,
  ⟨o,.store 3 (.s [f,f,f]) (.s [t,f,t,t]),o⟩]))
def c17_o2 : CCode:=(.trim [[t],[t,f],[f,f,f]] (.draw 0 [
  ⟨S [f,t,t,t],.idxArr 3 1 (.s [t,f]) (.c (.int .i64 0)),o⟩,
  ⟨S [t,t,t,t],.load o (.s [f,t,t,t]),o⟩,
  ⟨S [f,f,f,f,f],.call f (.c (.func 19 [])) [(.s [t,t,t,t]),(.c (.int .i64 5))],o⟩,
  ⟨S [t,f,f,f,f],.bin .add (.c (.int .i64 1)) (.s [f,f,f,f,f]),o⟩,
  ⟨S [f,t,f,f,f],.idxArr 3 1 (.s [t,f]) (.c (.int .i64 1)),o⟩,
  ⟨S [t,t,f,f,f],.load o (.s [f,t,f,f,f]),o⟩,
  ⟨S [f,f,t,f,f],.call f (.c (.func 19 [])) [(.s [t,t,f,f,f]),(.c (.int .i64 10))],o⟩,
  ⟨S [t,f,t,f,f],.bin .add (.c (.int .i64 1)) (.s [f,f,t,f,f]),o⟩,
  ⟨S [t,f,f],m (.s [t,f,f,f,f]),o⟩,
  ⟨S [f,t,f],m (.s [t,f,t,f,f]),o⟩]
  [(1,5),(2,5)] [[],[0],[0,1],[0,1,2],[],[4],[0,1,2,4,5],[0,1,2,4,5,6],(r 7),(r 9)]))
def c17_o3 : CCode:=(.trim [[t],[t,f],[f,f,f],[t,f,f],[f,t,f]] (.ops [
  ⟨S [t,t,f],m (.c (.nils)),o⟩]))
def c17_o4 : CCode:=(.trim [[t],[t,f],[f,f,f],[t,f,f],[f,t,f],[t,t,f]] (.ops [
  ⟨S [f,f,t],m (.c (.int .i64 0)),o⟩]))
def c17_o5 : CCode:=(.trim [[t],[t,f],[f,f,f],[t,f,f],[f,t,f],[t,t,f],[f,f,t]] (.ops [
  ⟨S [t,f,t],m (.c (.int .i64 0)),o⟩]))
def c17_o6 : CCode:=(.trim [[t],[t,f],[f,f,f],[t,f,f],[f,t,f],[t,t,f],[f,f,t],[t,f,t]] (.ops [
  ⟨S [f,t,t,f,f],m (.s [t,f,t]),o⟩,
  ⟨S [t,t,t,f,f],m (.s [f,t,f]),o⟩,
  ⟨S [f,f,f,t,f],.bin .lss (.s [f,t,t,f,f]) (.s [t,t,t,f,f]),o⟩]))
def c17_o7 : CCode:=(.trim [[t],[t,f],[f,f,f],[t,f,f],[f,t,f],[t,t,f],[f,f,t],[t,f,t]] (.ops [
  ⟨S [f,t,t],m (.c (.nils)),o⟩]))
def c17_o8 : CCode:=(.trim [[t],[t,f],[f,f,f],[t,f,f],[f,t,f],[t,t,f],[f,f,t],[t,f,t],[f,t,t]] (.ops [
  ⟨S [t,t,t],m (.c (.int .i64 0)),o⟩]))
def c17_o9 : CCode:=(.trim [[t],[t,f],[f,f,f],[t,f,f],[f,t,f],[t,t,f],[f,f,t],[t,f,t],[f,t,t],[t,t,t]] (.ops [
  ⟨S [t,t,f,t,f],m (.s [t,t,t]),o⟩,
  ⟨S [f,f,t,t,f],m (.s [t,f,f]),o⟩,
  ⟨S [t,f,t,t,f],.bin .lss (.s [t,t,f,t,f]) (.s [f,f,t,t,f]),o⟩]))
def c17_o10 : CCode:=(.trim [[t],[t,f],[f,f,f],[t,f,f],[f,t,f],[t,t,f],[f,f,t],[t,f,t],[f,t,t],[t,t,t]] (.ops [
  ⟨S [f,f,f,f,t],.fieldAddr 0 (.s [f,f,f]),o⟩,
  ⟨S [t,f,f,f,t],.load o (.s [f,f,f,f,t]),o⟩,
  ⟨S [f,t,f,f,t],.makeSlice o 1 8 [.int .i64 0] (.s [t,f,f,f,t]),o⟩,
  ⟨S [f,f,f,f],m (.s [f,t,f,f,t]),o⟩]))
def c17_o11 : CCode:=(.trim [[t],[t,f],[f,f,f],[t,f,f],[f,t,f],[t,t,f],[f,f,t],[t,f,t],[f,t,t],[t,t,t],[f,f,f,f]] (.ops [
  ⟨S [t,f,f,f],m (.c (.int .i64 0)),o⟩]))
def c17_o12 : CCode:=(.trim [[t],[t,f],[f,f,f],[t,f,f],[f,t,f],[t,t,f],[f,f,t],[t,f,t],[f,t,t],[t,t,t],[f,f,f,f],[t,f,f,f]] (.ops [
  ⟨S [t,t,f,f,t],m (.s [t,f,f,f]),o⟩,
  ⟨S [f,f,t,f,t],.fieldAddr 0 (.s [f,f,f]),o⟩,
  ⟨S [t,f,t,f,t],.load o (.s [f,f,t,f,t]),o⟩,
  ⟨S [f,t,t,f,t],.bin .lss (.s [t,t,f,f,t]) (.s [t,f,t,f,t]),o⟩]))
def c17_o13 : CCode:=(.trim [[t],[t,f],[f,f,f],[t,f,f],[f,t,f],[t,t,f],[f,f,t],[t,f,t],[f,t,t],[t,t,t],[f,f,f,f],[t,f,f,f]] (.ops [
  ⟨S [t,f,f,t,t],m (.s [f,f,t]),o⟩,
  ⟨S [f,t,f,t,t],m (.s [t]),o⟩,
  ⟨S [t,t,f,t,t],.len 1 (.s [f,t,f,t,t]),o⟩,
  ⟨S [f,f,t,t,t],.bin .lss (.s [t,f,f,t,t]) (.s [t,t,f,t,t]),o⟩]))
def c17_o14 : CCode:=(.trim [[t],[t,f],[f,f,f],[t,f,f],[f,t,f],[t,t,f],[f,f,t],[t,f,t],[f,t,t],[t,t,t],[f,f,f,f],[t,f,f,f]] (.ops [
  ⟨S [t,f,t,t,t],m (.s [f,f,f,f]),o⟩,
  ⟨S [f,t,t,t,t],m (.s [t,f,f,f]),o⟩,
  ⟨S [t,t,t,t,t],m (.s [t]),o⟩,
  ⟨S [f,f,f,f,f,f],m (.s [f,f,t]),o⟩,
  ⟨S [t,f,f,f,f,f],.idxSl 1 (.s [t,t,t,t,t]) (.s [f,f,f,f,f,f]),o⟩,
  ⟨S [f,t,f,f,f,f],.load o (.s [t,f,f,f,f,f]),o⟩,
  ⟨S [t,t,f,f,f,f],.call f (.c (.func 19 [])) [(.s [f,t,f,f,f,f]),(.c (.int .i64 2001))],o⟩,
  ⟨S [f,f,t,f,f,f],.bin .sub (.s [t,t,f,f,f,f]) (.c (.int .i64 1000)),o⟩,
  ⟨S [t,f,t,f,f,f],.idxSl 1 (.s [t,f,t,t,t]) (.s [f,t,t,t,t]),o⟩,
  ⟨o,.store 1 (.s [t,f,t,f,f,f]) (.s [f,f,t,f,f,f]),o⟩]))
def c17_o15 : CCode:=(.trim [[t],[t,f],[f,f,f],[t,f,f],[f,t,f],[t,t,f],[f,f,t],[t,f,t],[f,t,t],[t,t,t],[f,f,f,f],[t,f,f,f]] (.ops [
  ⟨S [f,t,t,f,f,f],m (.s [f,f,t]),o⟩,
  ⟨S [t,t,t,f,f,f],.bin .add (.s [f,t,t,f,f,f]) (.c (.int .i64 1)),o⟩,
  ⟨S [f,f,t],m (.s [t,t,t,f,f,f]),o⟩]))
def c17_o16 : CCode:=(.trim [[t],[t,f],[f,f,f],[t,f,f],[f,t,f],[t,t,f],[f,f,t],[t,f,t],[f,t,t],[t,t,t],[f,f,f,f],[t,f,f,f]] (.ops [
  ⟨S [t,t,t,f,t],m (.s [t,f,f,f]),o⟩,
  ⟨S [f,f,f,t,t],.bin .add (.s [t,t,t,f,t]) (.c (.int .i64 1)),o⟩,
  ⟨S [t,f,f,f],m (.s [f,f,f,t,t]),o⟩]))
def c17_b0 : CCode:=((.seq (.seq c17_o12
 (.cond (.s [f,t,t,f,t]) .skip (.exit 4)))
 (.seq (.block 5 (.seq (.seq c17_o13
 (.cond (.s [f,f,t,t,t]) c17_o14 .skip))
 c17_o15))
 c17_o16)))
def c17_l0 : CCode:=(.loop [[t],[t,f],[f,f,f],[t,f,f],[f,t,f],[t,t,f],[f,f,t],[t,f,t],[f,t,t],[t,t,t],[f,f,f,f],[t,f,f,f]] c17_b0)
def c17_o17 : CCode:=(.trim [[t],[t,f],[f,f,f],[t,f,f],[f,t,f],[t,t,f],[f,f,t],[t,f,t],[f,t,t],[t,t,t],[f,f,f,f]] (.ops [
  ⟨S [f,f,f,t,f,f],m (.s [f,t,t]),o⟩,
  ⟨S [t,f,f,t,f,f],m (.s [f,f,f,f]),o⟩,
  ⟨S [f,t,f,t,f,f],.buildSlice o 1 1 [.nils] [(0,1,(.s [t,f,f,t,f,f]))],o⟩,
  ⟨S [t,t,f,t,f,f],.append o 1 24 (.s [f,f,f,t,f,f]) (.s [f,t,f,t,f,f]),o⟩,
  ⟨S [f,t,t],m (.s [t,t,f,t,f,f]),o⟩]))
def c17_o18 : CCode:=(.trim [[t],[t,f],[f,f,f],[t,f,f],[f,t,f],[t,t,f],[f,f,t],[t,f,t],[f,t,t],[t,t,t]] (.ops [
  ⟨S [f,t,t,t,f],m (.s [t,t,t]),o⟩,
  ⟨S [t,t,t,t,f],.bin .add (.s [f,t,t,t,f]) (.c (.int .i64 1)),o⟩,
  ⟨S [t,t,t],m (.s [t,t,t,t,f]),o⟩]))
def c17_b1 : CCode:=((.seq (.seq c17_o9
 (.cond (.s [t,f,t,t,f]) .skip (.exit 2)))
 (.seq (.block 3 (.seq c17_o10
 (.seq (.seq c17_o11
 (.block 4 c17_l0))
 c17_o17)))
 c17_o18)))
def c17_l1 : CCode:=(.loop [[t],[t,f],[f,f,f],[t,f,f],[f,t,f],[t,t,f],[f,f,t],[t,f,t],[f,t,t],[t,t,t]] c17_b1)
def c17_o19 : CCode:=(.trim [[t],[t,f],[f,f,f],[t,f,f],[f,t,f],[t,t,f],[f,f,t],[t,f,t],[f,t,t]] (.ops [
  ⟨S [f,f,t,t,f,f],m (.s [t,t,f]),o⟩,
  ⟨S [t,f,t,t,f,f],m (.s [f,t,t]),o⟩,
  ⟨S [f,t,t,t,f,f],.buildSlice o 1 1 [.nils] [(0,1,(.s [t,f,t,t,f,f]))],o⟩,
  ⟨S [t,t,t,t,f,f],.append o 1 24 (.s [f,f,t,t,f,f]) (.s [f,t,t,t,f,f]),o⟩,
  ⟨S [t,t,f],m (.s [t,t,t,t,f,f]),o⟩]))
def c17_o20 : CCode:=(.trim [[t],[t,f],[f,f,f],[t,f,f],[f,t,f],[t,t,f],[f,f,t],[t,f,t]] (.ops [
  ⟨S [t,f,f,t,f],m (.s [t,f,t]),o⟩,
  ⟨S [f,t,f,t,f],.bin .add (.s [t,f,f,t,f]) (.c (.int .i64 1)),o⟩,
  ⟨S [t,f,t],m (.s [f,t,f,t,f]),o⟩]))
def c17_b2 : CCode:=((.seq (.seq c17_o6
 (.cond (.s [f,f,f,t,f]) .skip (.exit 0)))
 (.seq (.block 1 (.seq c17_o7
 (.seq (.seq c17_o8
 (.block 2 c17_l1))
 c17_o19)))
 c17_o20)))
def c17_l2 : CCode:=(.loop [[t],[t,f],[f,f,f],[t,f,f],[f,t,f],[t,t,f],[f,f,t],[t,f,t]] c17_b2)
def c17_o21 : CCode:=(.trim [[t,f],[f,f,f],[t,f,f],[f,t,f],[t,t,f]] (.ops [
  ⟨S [t,f,f,f,t,f],.load (S 3) (.s [f,f,f]),o⟩,
  ⟨S [f,t,f,f,t,f],m (.s [t,t,f]),o⟩,
  ⟨S [t,t,f,f,t,f],.call f (.c (.func 51 [])) [(.s [t,f,f,f,t,f]),(.s [f,t,f,f,t,f])],o⟩,
  ⟨S [f,f,f,f,t,f],m (.s [t,t,f,f,t,f]),o⟩,
  ⟨S [f,f,t,f,t,f],.extract 0 (.s [f,f,f,f,t,f]),o⟩,
  ⟨S [t,f,t,f,t,f],.extract 1 (.s [f,f,f,f,t,f]),o⟩,
  ⟨S [f,t,t,f,t,f],.extract 2 (.s [f,f,f,f,t,f]),o⟩,
  ⟨S [f,t,f,f],m (.s [f,f,t,f,t,f]),o⟩,
  ⟨S [t,t,f,f],m (.s [t,f,t,f,t,f]),o⟩,
  ⟨S [f,f,t,f],m (.s [f,t,t,f,t,f]),o⟩]))
def c17_o22 : CCode:=(.trim [[t,f],[f,f,f],[t,f,f],[f,t,f],[t,t,f],[f,t,f,f],[t,t,f,f],[f,f,t,f]] (.ops [
  ⟨S [f,f,f,t,t,f],.load (S 3) (.s [f,f,f]),o⟩,
  ⟨S [t,f,f,t,t,f],m (.s [t,f,f]),o⟩,
  ⟨S [f,t,f,t,t,f],m (.s [f,t,f]),o⟩,
  ⟨S [t,t,f,t,t,f],.call f (.c (.func 21 [])) [(.s [f,f,f,t,t,f]),(.s [t,f,f,t,t,f]),(.s [f,t,f,t,t,f])],o⟩,
  ⟨S [t,t,t,f,t,f],m (.s [t,t,f,t,t,f]),o⟩,
  ⟨S [f,f,t,t,t,f],.extract 0 (.s [t,t,t,f,t,f]),o⟩,
  ⟨S [t,f,t,t,t,f],.extract 1 (.s [t,t,t,f,t,f]),o⟩,
  ⟨S [t,f,t,f],m (.s [f,f,t,t,t,f]),o⟩,
  ⟨S [f,t,t,f],m (.s [t,f,t,t,t,f]),o⟩]))
def c17_o23 : CCode:=(.trim [[t,f],[f,f,f],[t,f,f],[f,t,f],[t,t,f],[f,t,f,f],[t,t,f,f],[f,f,t,f],[t,f,t,f],[f,t,t,f]] (.ops [
  ⟨S [f,t,t,t,t,f],m (.s [f,f,t,f]),o⟩,
  ⟨S [t,t,t,t,t,f],.bin .neq (.s [f,t,t,t,t,f]) (.c (.int .i64 0)),o⟩]))
def c17_o24 : CCode:=(.trim [[f,f,t,f],[t,f,t,f],[f,t,t,f]] (.ops [
  ⟨S [f,f,f,f,f,t],m (.s [f,f,t,f]),o⟩,
  ⟨S [t,f,f,f,f,t],.bin .eql (.s [f,f,f,f,f,t]) (.c (.int .i64 6)),o⟩,
  ⟨S [f,t,f,f,f,t],m (.s [t,f,f,f,f,t]),o⟩,
  ⟨S [t,t,f,f,f,t],m (.s [f,t,t,f]),S ([f,t,f,f,f,t],t)⟩,
  ⟨S [f,f,t,f,f,t],.bin .eql (.s [t,t,f,f,f,t]) (.c (.int .i64 0)),S ([f,t,f,f,f,t],t)⟩,
  ⟨S [t,f,t,f,f,t],.pick (.s [f,t,f,f,f,t]) (.s [f,f,t,f,f,t]) (.c (.bool f)),o⟩,
  ⟨S [f,t,t,f,f,t],m (.s [t,f,t,f,f,t]),o⟩,
  ⟨S [t,t,t,f,f,t],m (.s [t,f,t,f]),S ([f,t,t,f,f,t],t)⟩,
  ⟨S [f,f,f,t,f,t],.bin .eql (.s [t,t,t,f,f,t]) (.c (.int .i64 0)),S ([f,t,t,f,f,t],t)⟩,
  ⟨S [t,f,f,t,f,t],.pick (.s [f,t,t,f,f,t]) (.s [f,f,f,t,f,t]) (.c (.bool f)),o⟩,
  ⟨S [f,t,f,t,f,t],m (.s [t,f,f,t,f,t]),o⟩,
  ⟨S [t,t,f,t,f,t],.call f (.c (.func 23 [])) [],S ([f,t,f,t,f,t],t)⟩,
  ⟨S [f,f,t,t,f,t],.pick (.s [f,t,f,t,f,t]) (.s [t,t,f,t,f,t]) (.c (.bool f)),o⟩,
  ⟨S [t,t],m (.s [f,f,t,t,f,t]),o⟩]))
def c17_o25 : CCode:=(.trim [[t,f],[f,f,f],[t,f,f],[f,t,f],[t,t,f],[f,t,f,f],[t,t,f,f],[t,f,t,f],[f,t,t,f]] (.ops [
  ⟨S [f,t,t,t,f,t],.load (S 3) (.s [f,f,f]),o⟩,
  ⟨S [t,t,t,t,f,t],m (.s [f,t,f,f]),o⟩,
  ⟨S [f,f,f,f,t,t],.call f (.c (.func 45 [])) [(.s [f,t,t,t,f,t]),(.s [t,t,t,t,f,t])],o⟩,
  ⟨S [t,f,t,t,f,t],m (.s [f,f,f,f,t,t]),o⟩,
  ⟨S [t,f,f,f,t,t],.extract 0 (.s [t,f,t,t,f,t]),o⟩,
  ⟨S [f,t,f,f,t,t],.extract 1 (.s [t,f,t,t,f,t]),o⟩,
  ⟨S [t,t,t,f],m (.s [t,f,f,f,t,t]),o⟩,
  ⟨S [f,f,f,t],m (.s [f,t,f,f,t,t]),o⟩]))
def c17_o26 : CCode:=(.trim [[t,f],[f,f,f],[t,f,f],[f,t,f],[t,t,f],[f,t,f,f],[t,t,f,f],[t,f,t,f],[f,t,t,f],[t,t,t,f],[f,f,f,t]] (.ops [
  ⟨S [t,t,f,f,t,t],m (.s [f,f,f,t]),o⟩,
  ⟨S [f,f,t,f,t,t],.bin .neq (.s [t,t,f,f,t,t]) (.c (.int .i64 0)),o⟩,
  ⟨S [t,f,t,f,t,t],m (.s [f,f,t,f,t,t]),o⟩,
  ⟨S [f,t,t,f,t,t],m (.s [t,t,t,f]),S ([t,f,t,f,t,t],f)⟩,
  ⟨S [t,t,t,f,t,t],.un .not (.s [f,t,t,f,t,t]),S ([t,f,t,f,t,t],f)⟩,
  ⟨S [f,f,f,t,t,t],.pick (.s [t,f,t,f,t,t]) (.c (.bool t)) (.s [t,t,t,f,t,t]),o⟩,
  ⟨S [t,f,f,t,t,t],m (.s [f,f,f,t,t,t]),o⟩,
  ⟨S [f,t,f,t,t,t],m (.s [f,t,f,f]),S ([t,f,f,t,t,t],f)⟩,
  ⟨S [t,t,f,t,t,t],.len 1 (.s [f,t,f,t,t,t]),S ([t,f,f,t,t,t],f)⟩,
  ⟨S [f,f,t,t,t,t],m (.s [f,t,f]),S ([t,f,f,t,t,t],f)⟩,
  ⟨S [t,f,t,t,t,t],.bin .neq (.s [t,t,f,t,t,t]) (.s [f,f,t,t,t,t]),S ([t,f,f,t,t,t],f)⟩,
  ⟨S [f,t,t,t,t,t],.pick (.s [t,f,f,t,t,t]) (.c (.bool t)) (.s [t,f,t,t,t,t]),o⟩,
  ⟨S [t,t,t,t,t,t],m (.s [f,t,t,t,t,t]),o⟩,
  ⟨S [f,f,f,f,f,f,f],m (.s [f,t,f,f]),S ([t,t,t,t,t,t],f)⟩,
  ⟨S [t,f,f,f,f,f,f],.idxSl 1 (.s [f,f,f,f,f,f,f]) (.c (.int .i64 0)),S ([t,t,t,t,t,t],f)⟩,
  ⟨S [f,t,f,f,f,f,f],.load o (.s [t,f,f,f,f,f,f]),S ([t,t,t,t,t,t],f)⟩,
  ⟨S [t,t,f,f,f,f,f],.len 0 (.s [f,t,f,f,f,f,f]),S ([t,t,t,t,t,t],f)⟩,
  ⟨S [f,f,t,f,f,f,f],m (.s [t,f,f]),S ([t,t,t,t,t,t],f)⟩,
  ⟨S [t,f,t,f,f,f,f],.bin .neq (.s [t,t,f,f,f,f,f]) (.s [f,f,t,f,f,f,f]),S ([t,t,t,t,t,t],f)⟩,
  ⟨S [f,t,t,f,f,f,f],.pick (.s [t,t,t,t,t,t]) (.c (.bool t)) (.s [t,f,t,f,f,f,f]),o⟩,
  ⟨S [t,t,t,f,f,f,f],m (.s [f,t,t,f,f,f,f]),o⟩,
  ⟨S [f,f,f,t,f,f,f],.load (S 3) (.s [f,f,f]),S ([t,t,t,f,f,f,f],f)⟩,
  ⟨S [t,f,f,t,f,f,f],m (.s [f,t,f,f]),S ([t,t,t,f,f,f,f],f)⟩,
  ⟨S [f,t,f,t,f,f,f],.call f (.c (.func 39 [])) [(.s [f,f,f,t,f,f,f]),(.s [t,f,f,t,f,f,f])],S ([t,t,t,f,f,f,f],f)⟩,
  ⟨S [t,t,f,t,f,f,f],.un .not (.s [f,t,f,t,f,f,f]),S ([t,t,t,f,f,f,f],f)⟩,
  ⟨S [f,f,t,t,f,f,f],.pick (.s [t,t,t,f,f,f,f]) (.c (.bool t)) (.s [t,t,f,t,f,f,f]),o⟩,
  ⟨S [t,f,t,t,f,f,f],m (.s [f,f,t,t,f,f,f]),o⟩,
  ⟨S [f,t,t,t,f,f,f],m (.s [t,t,f]),S ([t,f,t,t,f,f,f],f)⟩,
  ⟨S [t,t,t,t,f,f,f],m (.s [f,t,f,f]),S ([t,f,t,t,f,f,f],f)⟩,
  ⟨S [f,f,f,f,t,f,f],.call f (.c (.func 55 [])) [(.s [f,t,t,t,f,f,f]),(.s [t,t,t,t,f,f,f])],S ([t,f,t,t,f,f,f],f)⟩,
  ⟨S [t,f,f,f,t,f,f],m (.s [t,t,f,f]),S ([t,f,t,t,f,f,f],f)⟩,
  ⟨S [f,t,f,f,t,f,f],.bin .neq (.s [f,f,f,f,t,f,f]) (.s [t,f,f,f,t,f,f]),S ([t,f,t,t,f,f,f],f)⟩,
  ⟨S [t,t,f,f,t,f,f],.pick (.s [t,f,t,t,f,f,f]) (.c (.bool t)) (.s [f,t,f,f,t,f,f]),o⟩,
  ⟨S [f,f,t,f,t,f,f],m (.s [t,t,f,f,t,f,f]),o⟩,
  ⟨S [t,f,t,f,t,f,f],m (.s [f,t,t,f]),S ([f,f,t,f,t,f,f],f)⟩,
  ⟨S [f,t,t,f,t,f,f],.bin .eql (.s [t,f,t,f,t,f,f]) (.c (.int .i64 0)),S ([f,f,t,f,t,f,f],f)⟩,
  ⟨S [t,t,t,f,t,f,f],m (.s [f,t,t,f,t,f,f]),S ([f,f,t,f,t,f,f],f)⟩,
  ⟨S [f,f,f,t,t,f,f],m (.s [t,f,t,f]),S ([t,t,t,f,t,f,f],t)⟩,
  ⟨S [t,f,f,t,t,f,f],.bin .lss (.s [f,f,f,t,t,f,f]) (.c (.int .i64 1)),S ([t,t,t,f,t,f,f],t)⟩,
  ⟨S [f,t,f,t,t,f,f],.pick (.s [t,t,t,f,t,f,f]) (.s [t,f,f,t,t,f,f]) (.c (.bool f)),S ([f,f,t,f,t,f,f],f)⟩,
  ⟨S [t,t,f,t,t,f,f],.pick (.s [f,f,t,f,t,f,f]) (.c (.bool t)) (.s [f,t,f,t,t,f,f]),o⟩]))
def c17_o27 : CCode:=(.trim [] (.ops [
  ⟨S [t,t],m (.c (.bool f)),o⟩]))
def c17_o28 : CCode:=(.trim [[t,f],[f,f,f],[t,f,f],[f,t,f],[t,t,f],[f,t,f,f],[t,t,f,f],[t,f,t,f],[f,t,t,f]] (.ops [
  ⟨S [f,f,t,t,t,f,f],m (.s [f,t,t,f]),o⟩,
  ⟨S [t,f,t,t,t,f,f],.bin .neq (.s [f,f,t,t,t,f,f]) (.c (.int .i64 0)),o⟩]))
def c17_o29 : CCode:=(.trim [[f,t,t,f]] (.ops [
  ⟨S [f,t,t,t,t,f,f],m (.s [f,t,t,f]),o⟩,
  ⟨S [t,t,t,t,t,f,f],.bin .eql (.s [f,t,t,t,t,f,f]) (.c (.int .i64 5)),o⟩,
  ⟨S [f,f,f,f,f,t,f],m (.s [t,t,t,t,t,f,f]),o⟩,
  ⟨S [t,f,f,f,f,t,f],.call f (.c (.func 23 [])) [],S ([f,f,f,f,f,t,f],t)⟩,
  ⟨S [f,t,f,f,f,t,f],.pick (.s [f,f,f,f,f,t,f]) (.s [t,f,f,f,f,t,f]) (.c (.bool f)),o⟩,
  ⟨S [t,t],m (.s [f,t,f,f,f,t,f]),o⟩]))
def c17_o30 : CCode:=(.trim [[t,f],[f,f,f],[t,f,f],[f,t,f],[t,t,f],[f,t,f,f],[t,t,f,f],[t,f,t,f]] (.draw 0 [
  ⟨S [f,f,t,f,f,t,f],.load (S 3) (.s [f,f,f]),o⟩,
  ⟨S [t,f,t,f,f,t,f],m (.s [t,f,f]),o⟩,
  ⟨S [f,t,t,f,f,t,f],m (.s [f,t,f]),o⟩,
  ⟨S [t,t,t,f,f,t,f],.idxArr 3 1 (.s [t,f]) (.c (.int .i64 2)),o⟩,
  ⟨S [f,f,f,t,f,t,f],.load o (.s [t,t,t,f,f,t,f]),o⟩,
  ⟨S [t,f,f,t,f,t,f],m (.s [t,f,t,f]),o⟩,
  ⟨S [f,t,f,t,f,t,f],.call f (.c (.func 19 [])) [(.s [f,f,f,t,f,t,f]),(.s [t,f,f,t,f,t,f])],o⟩,
  ⟨S [t,t,f,t,f,t,f],.call f (.c (.func 32 [])) [(.s [f,f,t,f,f,t,f]),(.s [t,f,t,f,f,t,f]),(.s [f,t,t,f,f,t,f]),(.s [f,t,f,t,f,t,f])],o⟩,
  ⟨S [t,t,f,f,f,t,f],m (.s [t,t,f,t,f,t,f]),o⟩,
  ⟨S [f,f,t,t,f,t,f],.extract 0 (.s [t,t,f,f,f,t,f]),o⟩,
  ⟨S [t,f,t,t,f,t,f],.extract 1 (.s [t,t,f,f,f,t,f]),o⟩,
  ⟨S [t,f,f,t],m (.s [f,f,t,t,f,t,f]),o⟩,
  ⟨S [f,t,f,t],m (.s [t,f,t,t,f,t,f]),o⟩]
  [(0,4),(0,6)] [[],[],[],[],[3],[],[3,4,5],(r 7),(r 8),(r 9),(r 9),(r 10),(r 12)]))
def c17_o31 : CCode:=(.trim [[f,f,f],[t,f,f],[f,t,f],[t,t,f],[f,t,f,f],[t,t,f,f],[t,f,f,t],[f,t,f,t]] (.ops [
  ⟨S [f,t,t,t,f,t,f],m (.s [f,t,f,t]),o⟩,
  ⟨S [t,t,t,t,f,t,f],.bin .neq (.s [f,t,t,t,f,t,f]) (.c (.int .i64 0)),o⟩,
  ⟨S [f,f,f,f,t,t,f],m (.s [t,t,t,t,f,t,f]),o⟩,
  ⟨S [t,f,f,f,t,t,f],m (.s [t,f,f,t]),S ([f,f,f,f,t,t,f],f)⟩,
  ⟨S [f,t,f,f,t,t,f],.len 1 (.s [t,f,f,f,t,t,f]),S ([f,f,f,f,t,t,f],f)⟩,
  ⟨S [t,t,f,f,t,t,f],m (.s [f,t,f]),S ([f,f,f,f,t,t,f],f)⟩,
  ⟨S [f,f,t,f,t,t,f],.bin .neq (.s [f,t,f,f,t,t,f]) (.s [t,t,f,f,t,t,f]),S ([f,f,f,f,t,t,f],f)⟩,
  ⟨S [t,f,t,f,t,t,f],.pick (.s [f,f,f,f,t,t,f]) (.c (.bool t)) (.s [f,f,t,f,t,t,f]),o⟩,
  ⟨S [f,t,t,f,t,t,f],m (.s [t,f,t,f,t,t,f]),o⟩,
  ⟨S [t,t,t,f,t,t,f],m (.s [t,f,f,t]),S ([f,t,t,f,t,t,f],f)⟩,
  ⟨S [f,f,f,t,t,t,f],.idxSl 1 (.s [t,t,t,f,t,t,f]) (.c (.int .i64 0)),S ([f,t,t,f,t,t,f],f)⟩,
  ⟨S [t,f,f,t,t,t,f],.load o (.s [f,f,f,t,t,t,f]),S ([f,t,t,f,t,t,f],f)⟩,
  ⟨S [f,t,f,t,t,t,f],.len 0 (.s [t,f,f,t,t,t,f]),S ([f,t,t,f,t,t,f],f)⟩,
  ⟨S [t,t,f,t,t,t,f],m (.s [t,f,f]),S ([f,t,t,f,t,t,f],f)⟩,
  ⟨S [f,f,t,t,t,t,f],.bin .neq (.s [f,t,f,t,t,t,f]) (.s [t,t,f,t,t,t,f]),S ([f,t,t,f,t,t,f],f)⟩,
  ⟨S [t,f,t,t,t,t,f],.pick (.s [f,t,t,f,t,t,f]) (.c (.bool t)) (.s [f,f,t,t,t,t,f]),o⟩,
  ⟨S [f,t,t,t,t,t,f],m (.s [t,f,t,t,t,t,f]),o⟩,
  ⟨S [t,t,t,t,t,t,f],.load (S 3) (.s [f,f,f]),S ([f,t,t,t,t,t,f],f)⟩,
  ⟨S [f,f,f,f,f,f,t],m (.s [t,f,f,t]),S ([f,t,t,t,t,t,f],f)⟩,
  ⟨S [t,f,f,f,f,f,t],.call f (.c (.func 39 [])) [(.s [t,t,t,t,t,t,f]),(.s [f,f,f,f,f,f,t])],S ([f,t,t,t,t,t,f],f)⟩,
  ⟨S [f,t,f,f,f,f,t],.un .not (.s [t,f,f,f,f,f,t]),S ([f,t,t,t,t,t,f],f)⟩,
  ⟨S [t,t,f,f,f,f,t],.pick (.s [f,t,t,t,t,t,f]) (.c (.bool t)) (.s [f,t,f,f,f,f,t]),o⟩]))
def c17_o32 : CCode:=(.trim [] (.ops [
  ⟨S [t,t],m (.c (.bool f)),o⟩]))
def c17_o33 : CCode:=(.trim [[t,t,f],[f,t,f,f],[t,t,f,f],[t,f,f,t]] (.ops [
  ⟨S [f,f,t,f,f,f,t],m (.s [t,t,f]),o⟩,
  ⟨S [t,f,t,f,f,f,t],m (.s [t,f,f,t]),o⟩,
  ⟨S [f,t,t,f,f,f,t],.call f (.c (.func 55 [])) [(.s [f,f,t,f,f,f,t]),(.s [t,f,t,f,f,f,t])],o⟩,
  ⟨S [t,t,f,t],m (.s [f,t,t,f,f,f,t]),o⟩]))
def c17_o34 : CCode:=(.trim [[f,t,f,f],[t,t,f,f],[t,f,f,t],[t,t,f,t]] (.ops [
  ⟨S [t,t,t,f,f,f,t],m (.s [t,t,f,t]),o⟩,
  ⟨S [f,f,f,t,f,f,t],m (.s [t,t,f,f]),o⟩,
  ⟨S [t,f,f,t,f,f,t],.bin .lss (.s [t,t,t,f,f,f,t]) (.s [f,f,f,t,f,f,t]),o⟩,
  ⟨S [f,t,f,t,f,f,t],m (.s [t,f,f,t,f,f,t]),o⟩,
  ⟨S [t,t,f,t,f,f,t],m (.s [t,t,f,t]),S ([f,t,f,t,f,f,t],f)⟩,
  ⟨S [f,f,t,t,f,f,t],m (.s [t,t,f,f]),S ([f,t,f,t,f,f,t],f)⟩,
  ⟨S [t,f,t,t,f,f,t],.bin .eql (.s [t,t,f,t,f,f,t]) (.s [f,f,t,t,f,f,t]),S ([f,t,f,t,f,f,t],f)⟩,
  ⟨S [f,t,t,t,f,f,t],m (.s [t,f,t,t,f,f,t]),S ([f,t,f,t,f,f,t],f)⟩,
  ⟨S [t,t,t,t,f,f,t],m (.s [t,f,f,t]),S ([f,t,t,t,f,f,t],t)⟩,
  ⟨S [f,f,f,f,t,f,t],m (.s [f,t,f,f]),S ([f,t,t,t,f,f,t],t)⟩,
  ⟨S [t,f,f,f,t,f,t],.call f (.c (.func 54 [])) [(.s [t,t,t,t,f,f,t]),(.s [f,f,f,f,t,f,t])],S ([f,t,t,t,f,f,t],t)⟩,
  ⟨S [f,t,f,f,t,f,t],.un .not (.s [t,f,f,f,t,f,t]),S ([f,t,t,t,f,f,t],t)⟩,
  ⟨S [t,t,f,f,t,f,t],.pick (.s [f,t,t,t,f,f,t]) (.s [f,t,f,f,t,f,t]) (.c (.bool f)),S ([f,t,f,t,f,f,t],f)⟩,
  ⟨S [f,f,t,f,t,f,t],.pick (.s [f,t,f,t,f,f,t]) (.c (.bool t)) (.s [t,t,f,f,t,f,t]),o⟩,
  ⟨S [t,f,t,f,t,f,t],m (.s [f,f,t,f,t,f,t]),o⟩,
  ⟨S [f,t,t,f,t,f,t],.call f (.c (.func 23 [])) [],S ([t,f,t,f,t,f,t],t)⟩,
  ⟨S [t,t,t,f,t,f,t],.pick (.s [t,f,t,f,t,f,t]) (.s [f,t,t,f,t,f,t]) (.c (.bool f)),o⟩,
  ⟨S [t,t],m (.s [t,t,t,f,t,f,t]),o⟩]))
def c17 : CFunc:=({ params:=[[],[f],[t]],results:=[.slot [t,t]],shared:=f,body:=(.seq c17_o0
 (.seq c17_o1
 (.seq c17_o2
 (.seq c17_o3
 (.seq c17_o4
 (.seq (.seq c17_o5
 (.block 0 c17_l2))
 (.seq c17_o21
 (.seq c17_o22
 (.seq (.seq c17_o23
 (.cond (.s [t,t,t,t,t,f]) (.seq c17_o24
 .ret) .skip))
 (.seq c17_o25
 (.seq (.seq c17_o26
 (.cond (.s [t,t,f,t,t,f,f]) (.seq c17_o27
 .ret) .skip))
 (.seq (.seq c17_o28
 (.cond (.s [t,f,t,t,t,f,f]) (.seq c17_o29
 .ret) .skip))
 (.seq c17_o30
 (.seq (.seq c17_o31
 (.cond (.s [t,t,f,f,f,f,t]) (.seq c17_o32
 .ret) .skip))
 (.seq c17_o33
 (.seq c17_o34
 .ret)))))))))))))))) })
def c18_o0 : CCode:=(.trim [[]] (.ops [
  ⟨S [f],.box o (.s []),o⟩,
  ⟨S [t],.alloc o [.int .i64 0,.nils,.nils],o⟩]))
def c18_o1 : CCode:=(.trim [[f],[t]] (.ops [
  ⟨S [t,f,f],.fieldAddr 0 (.s [f]),o⟩,
  ⟨S [f,t,f],.load o (.s [t,f,f]),o⟩,
  ⟨S [t,t,f],.bin .sub (.s [f,t,f]) (.c (.int .i64 1)),o⟩,
  ⟨S [f,f,t],.call f (.c (.func 19 [])) [(.s [t,t,f]),(.c (.int .i64 3))],o⟩,
  ⟨S [t,f,t],.bin .add (.c (.int .i64 1)) (.s [f,f,t]),o⟩,
  ⟨S [f,t,t],.build [.int .i64 0,.nils,.nils] [(0,1,(.s [t,f,t]))],o⟩,
  ⟨S [f,f],.alloc o [.int .i64 0,.nils,.nils],o⟩,
  ⟨o,.store 3 (.s [f,f]) (.s [f,t,t]),o⟩]))
def c18_o2 : CCode:=(.trim [[f],[t],[f,f]] (.ops [
  ⟨S [t,f],m (.c (.int .i64 0)),o⟩]))
def c18_o3 : CCode:=(.trim [[f],[t],[f,f],[t,f]] (.ops [
  ⟨S [t,t,t],m (.s [t,f]),o⟩,
  ⟨S [f,f,f,f],.fieldAddr 0 (.s [f,f]),o⟩,
  ⟨S [t,f,f,f],.load o (.s [f,f,f,f]),o⟩,
  ⟨S [f,t,f,f],.bin .lss (.s [t,t,t]) (.s [t,f,f,f]),o⟩]))
def c18_o4 : CCode:=(.trim [[f],[t],[f,f],[t,f]] (.ops [
  ⟨S [f,t],m (.c (.nils)),o⟩,
  ⟨S [t,t],m (.c (.nils)),o⟩]))
def c18_o5 : CCode:=(.trim [[f],[t],[f,f],[t,f],[f,t],[t,t]] (.ops [
  ⟨S [f,f,f],m (.c (.int .i64 0)),o⟩]))
def c18_o6 : CCode:=(.trim [[f],[t],[f,f],[t,f],[f,t],[t,t],[f,f,f]] (.ops [
  ⟨S [t,f,t,f],m (.s [f,f,f]),o⟩,
  ⟨S [f,t,t,f],.fieldAddr 0 (.s [f,f]),o⟩,
  ⟨S [t,t,t,f],.load o (.s [f,t,t,f]),o⟩,
  ⟨S [f,f,f,t],.bin .lss (.s [t,f,t,f]) (.s [t,t,t,f]),o⟩]))
def c18_o7 : CCode:=(.trim [[f],[t],[f,f],[t,f],[f,t],[t,t],[f,f,f]] (.ops [
  ⟨S [t,t,f,t],m (.s [f,t]),o⟩,
  ⟨S [f,f,t,t],.fieldAddr 1 (.s [f]),o⟩,
  ⟨S [t,f,t,t],.load o (.s [f,f,t,t]),o⟩,
  ⟨S [f,t,t,t],m (.s [t,f]),o⟩,
  ⟨S [t,t,t,t],m (.s [f,f,f]),o⟩,
  ⟨S [f,f,f,f,f],.call f (.c (.func 56 [])) [(.s [t,f,t,t]),(.s [f,t,t,t]),(.s [t,t,t,t])],o⟩,
  ⟨S [t,f,f,f,f],.buildSlice o 1 1 [.int .i64 0] [(0,1,(.s [f,f,f,f,f]))],o⟩,
  ⟨S [f,t,f,f,f],.append o 1 8 (.s [t,t,f,t]) (.s [t,f,f,f,f]),o⟩,
  ⟨S [f,t],m (.s [f,t,f,f,f]),o⟩]))
def c18_o8 : CCode:=(.trim [[f],[t],[f,f],[t,f],[f,t],[t,t],[f,f,f]] (.ops [
  ⟨S [t,t,f,f,f],m (.s [t,t]),o⟩,
  ⟨S [f,f,t,f,f],.fieldAddr 2 (.s [f]),o⟩,
  ⟨S [t,f,t,f,f],.load o (.s [f,f,t,f,f]),o⟩,
  ⟨S [f,t,t,f,f],m (.s [t,f]),o⟩,
  ⟨S [t,t,t,f,f],m (.s [f,f,f]),o⟩,
  ⟨S [f,f,f,t,f],.call f (.c (.func 56 [])) [(.s [t,f,t,f,f]),(.s [f,t,t,f,f]),(.s [t,t,t,f,f])],o⟩,
  ⟨S [t,f,f,t,f],.buildSlice o 1 1 [.int .i64 0] [(0,1,(.s [f,f,f,t,f]))],o⟩,
  ⟨S [f,t,f,t,f],.append o 1 8 (.s [t,t,f,f,f]) (.s [t,f,f,t,f]),o⟩,
  ⟨S [t,t],m (.s [f,t,f,t,f]),o⟩]))
def c18_o9 : CCode:=(.trim [[f],[t],[f,f],[t,f],[f,t],[t,t],[f,f,f]] (.ops [
  ⟨S [t,f,f,t],m (.s [f,f,f]),o⟩,
  ⟨S [f,t,f,t],.bin .add (.s [t,f,f,t]) (.c (.int .i64 1)),o⟩,
  ⟨S [f,f,f],m (.s [f,t,f,t]),o⟩]))
def c18_b0 : CCode:=((.seq (.seq c18_o6
 (.cond (.s [f,f,f,t]) .skip (.exit 2)))
 (.seq (.block 3 (.seq c18_o7
 c18_o8))
 c18_o9)))
def c18_l0 : CCode:=(.loop [[f],[t],[f,f],[t,f],[f,t],[t,t],[f,f,f]] c18_b0)
def c18_o10 : CCode:=(.trim [[f],[t],[f,f],[t,f],[f,t],[t,t]] (.ops [
  ⟨S [t,t,f,t,f],.fieldAddr 1 (.s [f,f]),o⟩,
  ⟨S [f,f,t,t,f],.load o (.s [t,t,f,t,f]),o⟩,
  ⟨S [t,f,t,t,f],m (.s [f,t]),o⟩,
  ⟨S [f,t,t,t,f],.buildSlice o 1 1 [.nils] [(0,1,(.s [t,f,t,t,f]))],o⟩,
  ⟨S [t,t,t,t,f],.append o 1 24 (.s [f,f,t,t,f]) (.s [f,t,t,t,f]),o⟩,
  ⟨S [f,f,f,f,t],.fieldAddr 1 (.s [f,f]),o⟩,
  ⟨o,.store 1 (.s [f,f,f,f,t]) (.s [t,t,t,t,f]),o⟩]))
def c18_o11 : CCode:=(.trim [[f],[t],[f,f],[t,f],[t,t]] (.ops [
  ⟨S [t,f,f,f,t],.fieldAddr 2 (.s [f,f]),o⟩,
  ⟨S [f,t,f,f,t],.load o (.s [t,f,f,f,t]),o⟩,
  ⟨S [t,t,f,f,t],m (.s [t,t]),o⟩,
  ⟨S [f,f,t,f,t],.buildSlice o 1 1 [.nils] [(0,1,(.s [t,t,f,f,t]))],o⟩,
  ⟨S [t,f,t,f,t],.append o 1 24 (.s [f,t,f,f,t]) (.s [f,f,t,f,t]),o⟩,
  ⟨S [f,t,t,f,t],.fieldAddr 2 (.s [f,f]),o⟩,
  ⟨o,.store 1 (.s [f,t,t,f,t]) (.s [t,f,t,f,t]),o⟩]))
def c18_o12 : CCode:=(.trim [[f],[t],[f,f],[t,f]] (.ops [
  ⟨S [t,t,f,f],m (.s [t,f]),o⟩,
  ⟨S [f,f,t,f],.bin .add (.s [t,t,f,f]) (.c (.int .i64 1)),o⟩,
  ⟨S [t,f],m (.s [f,f,t,f]),o⟩]))
def c18_b1 : CCode:=((.seq (.seq c18_o3
 (.cond (.s [f,t,f,f]) .skip (.exit 0)))
 (.seq (.block 1 (.seq c18_o4
 (.seq (.seq c18_o5
 (.block 2 c18_l0))
 (.seq c18_o10
 c18_o11))))
 c18_o12)))
def c18_l1 : CCode:=(.loop [[f],[t],[f,f],[t,f]] c18_b1)
def c18_o13 : CCode:=(.trim [[t],[f,f]] (.ops [
  ⟨S [t,t,t,f,t],.load (S 3) (.s [f,f]),o⟩,
  ⟨o,.store 3 (.s [t]) (.s [t,t,t,f,t]),o⟩]))
def c18 : CFunc:=({ params:=[[]],results:=[.cell [t] (S 3)],shared:=f,body:=(.seq c18_o0
 (.seq c18_o1
 (.seq (.seq c18_o2
 (.block 0 c18_l1))
 (.seq c18_o13
 .ret)))) })
def c19_o0 : CCode:=(.trim [[],[f]] (.ops [
  ⟨S [t,f],m (.c (.int .i64 0)),o⟩]))
def c19_o1 : CCode:=(.trim [[],[f]] (.ops [
  ⟨S [f,t],m (.s []),o⟩,
  ⟨S [t,t],.conv .u64 (.s [f,t]),o⟩,
  ⟨S [f,f,f],m (.s [f]),o⟩,
  ⟨S [t,f,f],.conv .u64 (.s [f,f,f]),o⟩,
  ⟨S [f,t,f],.bin .rem (.s [t,t]) (.s [t,f,f]),o⟩,
  ⟨S [t,t,f],.conv .i64 (.s [f,t,f]),o⟩,
  ⟨S [t,f],m (.s [t,t,f]),o⟩]))
def c19 : CFunc:=({ params:=[[],[f]],results:=[.slot [t,f]],shared:=f,body:=(.seq c19_o0
 (.seq c19_o1
 .ret)) })
def c21_o0 : CCode:=(.trim [[],[f],[t]] (.ops [
  ⟨S [f,f],.box o (.s []),o⟩,
  ⟨S [t,t],m (.c (.int .i64 0)),o⟩,
  ⟨S [f,f,f],m (.c (.int .i64 0)),o⟩]))
def c21_o1 : CCode:=(.trim [[f],[t],[f,f]] (.ops [
  ⟨S [t,f,t],.load (S 3) (.s [f,f]),o⟩,
  ⟨S [f,t,t],.call f (.c (.func 57 [])) [(.s [t,f,t])],o⟩,
  ⟨S [t,t,t],.un .not (.s [f,t,t]),o⟩,
  ⟨S [f,f,f,f],m (.s [t,t,t]),o⟩,
  ⟨S [t,f,f,f],m (.s [f]),S ([f,f,f,f],f)⟩,
  ⟨S [f,t,f,f],.call f (.c (.func 60 [])) [(.s [t,f,f,f]),(.c (.int .i64 1)),(.c (.int .i64 5))],S ([f,f,f,f],f)⟩,
  ⟨S [t,t,f,f],.un .not (.s [f,t,f,f]),S ([f,f,f,f],f)⟩,
  ⟨S [f,f,t,f],.pick (.s [f,f,f,f]) (.c (.bool t)) (.s [t,t,f,f]),o⟩,
  ⟨S [t,f,t,f],m (.s [f,f,t,f]),o⟩,
  ⟨S [f,t,t,f],m (.s [t]),S ([t,f,t,f],f)⟩,
  ⟨S [t,t,t,f],.call f (.c (.func 60 [])) [(.s [f,t,t,f]),(.c (.int .i64 0)),(.c (.int .i64 40))],S ([t,f,t,f],f)⟩,
  ⟨S [f,f,f,t],.un .not (.s [t,t,t,f]),S ([t,f,t,f],f)⟩,
  ⟨S [t,f,f,t],.pick (.s [t,f,t,f]) (.c (.bool t)) (.s [f,f,f,t]),o⟩]))
def c21_o2 : CCode:=(.trim [] (.ops [
  ⟨S [t,t],m (.c (.int .i64 0)),o⟩,
  ⟨S [f,f,f],m (.c (.int .i64 2)),o⟩]))
def c21_o3 : CCode:=(.trim [[f],[t],[f,f]] (.ops [
  ⟨S [t,t,f,t],.load (S 3) (.s [f,f]),o⟩,
  ⟨S [f,f,t,t],m (.s [f]),o⟩,
  ⟨S [t,f,t,t],.call f (.c (.func 61 [])) [(.s [t,t,f,t]),(.s [f,f,t,t])],o⟩,
  ⟨S [f,t,t,t],m (.s [t]),o⟩,
  ⟨S [t,t,t,t],.call f (.c (.func 62 [])) [(.s [t,f,t,t]),(.s [f,t,t,t])],o⟩,
  ⟨S [f,t,f,t],m (.s [t,t,t,t]),o⟩,
  ⟨S [f,f,f,f,f],.extract 0 (.s [f,t,f,t]),o⟩,
  ⟨S [t,f,f,f,f],.extract 1 (.s [f,t,f,t]),o⟩,
  ⟨S [t,f,f],m (.s [f,f,f,f,f]),o⟩,
  ⟨S [f,t,f],m (.s [t,f,f,f,f]),o⟩]))
def c21_o4 : CCode:=(.trim [[t],[t,f,f],[f,t,f]] (.ops [
  ⟨S [f,t,f,f,f],m (.s [f,t,f]),o⟩,
  ⟨S [t,t,f,f,f],.un .not (.s [f,t,f,f,f]),o⟩]))
def c21_o5 : CCode:=(.trim [] (.ops [
  ⟨S [t,t],m (.c (.int .i64 0)),o⟩,
  ⟨S [f,f,f],m (.c (.int .i64 5)),o⟩]))
def c21_o6 : CCode:=(.trim [[t],[t,f,f]] (.ops [
  ⟨S [f,f,t,f,f],m (.s [t]),o⟩,
  ⟨S [t,f,t,f,f],.bin .eql (.s [f,f,t,f,f]) (.c (.int .i64 0)),o⟩]))
def c21_o7 : CCode:=(.trim [] (.ops [
  ⟨S [t,t],m (.c (.int .i64 1)),o⟩,
  ⟨S [f,f,f],m (.c (.int .i64 0)),o⟩]))
def c21_o8 : CCode:=(.trim [[t],[t,f,f]] (.ops [
  ⟨S [t,t,t,f,f],m (.s [t,f,f]),o⟩,
  ⟨S [f,f,f,t,f],m (.s [t]),o⟩,
  ⟨S [t,f,f,t,f],.bin .sub (.s [f,f,f,t,f]) (.c (.int .i64 1)),o⟩,
  ⟨S [f,t,f,t,f],.idxSl 1 (.s [t,t,t,f,f]) (.s [t,f,f,t,f]),o⟩,
  ⟨S [t,t,f,t,f],.load o (.s [f,t,f,t,f]),o⟩,
  ⟨S [f,f,t,t,f],.call f (.c (.func 63 [])) [(.s [t,t,f,t,f]),(.c (.int .i64 1152921504606846976))],o⟩,
  ⟨S [f,t,t,f,f],m (.s [f,f,t,t,f]),o⟩,
  ⟨S [t,f,t,t,f],.extract 0 (.s [f,t,t,f,f]),o⟩,
  ⟨S [f,t,t,t,f],.extract 1 (.s [f,t,t,f,f]),o⟩,
  ⟨S [t,t,f],m (.s [t,f,t,t,f]),o⟩,
  ⟨S [f,f,t],m (.s [f,t,t,t,f]),o⟩]))
def c21_o9 : CCode:=(.trim [[t,t,f]] (.ops [
  ⟨S [t,t,t,t,f],m (.s [t,t,f]),o⟩,
  ⟨S [t,t],m (.s [t,t,t,t,f]),o⟩,
  ⟨S [f,f,f],m (.c (.int .i64 0)),o⟩]))
def c21 : CFunc:=({ params:=[[],[f],[t]],results:=[.slot [t,t],.slot [f,f,f]],shared:=f,body:=(.seq c21_o0
 (.seq (.seq c21_o1
 (.cond (.s [t,f,f,t]) (.seq c21_o2
 .ret) .skip))
 (.seq c21_o3
 (.seq (.seq c21_o4
 (.cond (.s [t,t,f,f,f]) (.seq c21_o5
 .ret) .skip))
 (.seq (.seq c21_o6
 (.cond (.s [t,f,t,f,f]) (.seq c21_o7
 .ret) .skip))
 (.seq c21_o8
 (.seq c21_o9
 .ret))))))) })
def c23_o0 : CCode:=(.trim [] (.ops [
  ⟨S [],m (.c (.bool f)),o⟩]))
def c23_o1 : CCode:=(.trim [] (.ops [
  ⟨S [t,f,f],.call f (.c (.func 65 [])) [],o⟩,
  ⟨S [f,t,f],.call f (.c (.func 25 [])) [(.s [t,f,f]),(.c (.int .i64 2))],o⟩,
  ⟨S [f,f,f],m (.s [f,t,f]),o⟩,
  ⟨S [t,t,f],.extract 0 (.s [f,f,f]),o⟩,
  ⟨S [f,f,t],.extract 1 (.s [f,f,f]),o⟩,
  ⟨S [f],m (.s [t,t,f]),o⟩,
  ⟨S [t],m (.s [f,f,t]),o⟩]))
def c23_o2 : CCode:=(.trim [[f],[t]] (.ops [
  ⟨S [f,t,t],.call f (.c (.func 65 [])) [],o⟩,
  ⟨S [t,t,t],.call f (.c (.func 21 [])) [(.s [f,t,t]),(.c (.int .i64 2)),(.c (.int .i64 2))],o⟩,
  ⟨S [t,f,t],m (.s [t,t,t]),o⟩,
  ⟨S [f,f,f,f],.extract 0 (.s [t,f,t]),o⟩,
  ⟨S [t,f,f,f],.extract 1 (.s [t,f,t]),o⟩,
  ⟨S [f,f],m (.s [f,f,f,f]),o⟩,
  ⟨S [t,f],m (.s [t,f,f,f]),o⟩]))
def c23_o3 : CCode:=(.trim [[f],[t],[f,f],[t,f]] (.ops [
  ⟨S [t,t,f,f],.buildSlice o 1 2 [.int .i64 0,.int .i64 0] [(0,1,(.c (.int .i64 1))),(1,1,(.c (.int .i64 1)))],o⟩,
  ⟨S [f,f,t,f],.buildSlice o 1 2 [.int .i64 0,.int .i64 0] [(0,1,(.c (.int .i64 1))),(1,1,(.c (.int .i64 1)))],o⟩,
  ⟨S [t,f,t,f],.buildSlice o 1 2 [.nils,.nils] [(0,1,(.s [t,t,f,f])),(1,1,(.s [f,f,t,f]))],o⟩,
  ⟨S [f,t,t,f],.buildSlice o 1 2 [.int .i64 0,.int .i64 0] [(0,1,(.c (.int .i64 0))),(1,1,(.c (.int .i64 1)))],o⟩,
  ⟨S [t,t,t,f],.buildSlice o 1 2 [.int .i64 0,.int .i64 0] [(0,1,(.c (.int .i64 0))),(1,1,(.c (.int .i64 0)))],o⟩,
  ⟨S [f,f,f,t],.buildSlice o 1 2 [.nils,.nils] [(0,1,(.s [f,t,t,f])),(1,1,(.s [t,t,t,f]))],o⟩,
  ⟨S [t,f,f,t],.build [.int .i64 0,.nils,.nils] [(0,1,(.c (.int .i64 2))),(1,1,(.s [t,f,t,f])),(2,1,(.s [f,f,f,t]))],o⟩,
  ⟨S [f,t,f,t],.call f (.c (.func 35 [])) [(.s [t,f,f,t]),(.c (.int .i64 2))],o⟩,
  ⟨S [f,t,f,f],m (.s [f,t,f,t]),o⟩,
  ⟨S [t,t,f,t],.extract 0 (.s [f,t,f,f]),o⟩,
  ⟨S [f,f,t,t],.extract 1 (.s [f,t,f,f]),o⟩,
  ⟨S [f,t],m (.s [t,t,f,t]),o⟩,
  ⟨S [t,t],m (.s [f,f,t,t]),o⟩]))
def c23_o4 : CCode:=(.trim [[f],[t],[f,f],[t,f],[f,t],[t,t]] (.ops [
  ⟨S [t,f,t,t],m (.s [t]),o⟩,
  ⟨S [f,t,t,t],.bin .neq (.s [t,f,t,t]) (.c (.int .i64 0)),o⟩,
  ⟨S [t,t,t,t],m (.s [f,t,t,t]),o⟩,
  ⟨S [f,f,f,f,f],m (.s [f]),S ([t,t,t,t],f)⟩,
  ⟨S [t,f,f,f,f],.buildSlice o 1 3 [.str [],.str [],.str []] [(0,1,(.c (.str [48,48]))),(1,1,(.c (.str [48,49]))),(2,1,(.c (.str [49,48])))],S ([t,t,t,t],f)⟩,
  ⟨S [f,t,f,f,f],.call f (.c (.func 29 [])) [(.s [f,f,f,f,f]),(.s [t,f,f,f,f])],S ([t,t,t,t],f)⟩,
  ⟨S [t,t,f,f,f],.un .not (.s [f,t,f,f,f]),S ([t,t,t,t],f)⟩,
  ⟨S [f,f,t,f,f],.pick (.s [t,t,t,t]) (.c (.bool t)) (.s [t,t,f,f,f]),o⟩,
  ⟨S [t,f,t,f,f],m (.s [f,f,t,f,f]),o⟩,
  ⟨S [f,t,t,f,f],m (.s [t,f]),S ([t,f,t,f,f],f)⟩,
  ⟨S [t,t,t,f,f],.bin .neq (.s [f,t,t,f,f]) (.c (.int .i64 0)),S ([t,f,t,f,f],f)⟩,
  ⟨S [f,f,f,t,f],.pick (.s [t,f,t,f,f]) (.c (.bool t)) (.s [t,t,t,f,f]),o⟩,
  ⟨S [t,f,f,t,f],m (.s [f,f,f,t,f]),o⟩,
  ⟨S [f,t,f,t,f],m (.s [f,f]),S ([t,f,f,t,f],f)⟩,
  ⟨S [t,t,f,t,f],.bin .neq (.s [f,t,f,t,f]) (.c (.int .i64 7)),S ([t,f,f,t,f],f)⟩,
  ⟨S [f,f,t,t,f],.pick (.s [t,f,f,t,f]) (.c (.bool t)) (.s [t,t,f,t,f]),o⟩,
  ⟨S [t,f,t,t,f],m (.s [f,f,t,t,f]),o⟩,
  ⟨S [f,t,t,t,f],m (.s [t,t]),S ([t,f,t,t,f],f)⟩,
  ⟨S [t,t,t,t,f],.bin .neq (.s [f,t,t,t,f]) (.c (.int .i64 0)),S ([t,f,t,t,f],f)⟩,
  ⟨S [f,f,f,f,t],.pick (.s [t,f,t,t,f]) (.c (.bool t)) (.s [t,t,t,t,f]),o⟩,
  ⟨S [t,f,f,f,t],m (.s [f,f,f,f,t]),o⟩,
  ⟨S [f,t,f,f,t],m (.s [f,t]),S ([t,f,f,f,t],f)⟩,
  ⟨S [t,t,f,f,t],.bin .neq (.s [f,t,f,f,t]) (.c (.int .i64 2)),S ([t,f,f,f,t],f)⟩,
  ⟨S [f,f,t,f,t],.pick (.s [t,f,f,f,t]) (.c (.bool t)) (.s [t,t,f,f,t]),o⟩]))
def c23_o5 : CCode:=(.trim [] (.ops [
  ⟨S [],m (.c (.bool f)),o⟩]))
def c23_o6 : CCode:=(.trim [] (.ops [
  ⟨S [],m (.c (.bool f)),o⟩]))
def c23_o7 : CCode:=(.trim [] (.ops [
  ⟨S [],m (.c (.bool t)),o⟩]))
def c23 : CFunc:=({ params:=[],results:=[.slot []],shared:=f,body:=(.seq c23_o0
 (.seq c23_o1
 (.seq c23_o2
 (.seq c23_o3
 (.seq (.seq c23_o4
 (.cond (.s [f,f,t,f,t]) (.seq c23_o5
 .ret) .skip))
 (.seq (.cond (.c (.bool f)) (.seq c23_o6
 .ret) .skip)
 (.seq c23_o7
 .ret))))))) })
def c25_o0 : CCode:=(.trim [[],[f]] (.ops [
  ⟨S [t],.box o (.s []),o⟩,
  ⟨S [t,f],m (.c (.nils)),o⟩,
  ⟨S [f,t],m (.c (.int .i64 0)),o⟩]))
def c25_o1 : CCode:=(.trim [[f],[t]] (.ops [
  ⟨S [t,t],.load (S 3) (.s [t]),o⟩,
  ⟨S [f,f,f],.call f (.c (.func 57 [])) [(.s [t,t])],o⟩,
  ⟨S [t,f,f],.un .not (.s [f,f,f]),o⟩,
  ⟨S [f,t,f],m (.s [t,f,f]),o⟩,
  ⟨S [t,t,f],m (.s [f]),S ([f,t,f],f)⟩,
  ⟨S [f,f,t],.call f (.c (.func 60 [])) [(.s [t,t,f]),(.c (.int .i64 1)),(.c (.int .i64 5))],S ([f,t,f],f)⟩,
  ⟨S [t,f,t],.un .not (.s [f,f,t]),S ([f,t,f],f)⟩,
  ⟨S [f,t,t],.pick (.s [f,t,f]) (.c (.bool t)) (.s [t,f,t]),o⟩]))
def c25_o2 : CCode:=(.trim [] (.ops [
  ⟨S [t,f],m (.c (.nils)),o⟩,
  ⟨S [f,t],m (.c (.int .i64 2)),o⟩]))
def c25_o3 : CCode:=(.trim [[f],[t]] (.ops [
  ⟨S [t,t,t],.load (S 3) (.s [t]),o⟩,
  ⟨S [f,f,f,f],m (.s [f]),o⟩,
  ⟨S [t,f,f,f],.call f (.c (.func 61 [])) [(.s [t,t,t]),(.s [f,f,f,f])],o⟩,
  ⟨S [f,t,f,f],.nilCheck (.s [t,f,f,f]),o⟩,
  ⟨S [t,t,f,f],.fieldAddr 0 (.s [f,t,f,f]),o⟩,
  ⟨S [f,f,t,f],.load o (.s [t,t,f,f]),o⟩,
  ⟨S [t,f],m (.s [f,f,t,f]),o⟩,
  ⟨S [f,t],m (.c (.int .i64 0)),o⟩]))
def c25 : CFunc:=({ params:=[[],[f]],results:=[.slot [t,f],.slot [f,t]],shared:=f,body:=(.seq c25_o0
 (.seq (.seq c25_o1
 (.cond (.s [f,t,t]) (.seq c25_o2
 .ret) .skip))
 (.seq c25_o3
 .ret))) })
def c29_o0 : CCode:=(.trim [[],[f]] (.ops [
  ⟨S [t,f],m (.c (.bool f)),o⟩]))
def c29_o1 : CCode:=(.trim [[],[f]] (.ops [
  ⟨S [t,t],m (.s []),o⟩,
  ⟨S [f,f,f],.len 1 (.s [t,t]),o⟩,
  ⟨S [t,f,f],m (.s [f]),o⟩,
  ⟨S [f,t,f],.len 1 (.s [t,f,f]),o⟩,
  ⟨S [t,t,f],.bin .neq (.s [f,f,f]) (.s [f,t,f]),o⟩]))
def c29_o2 : CCode:=(.trim [] (.ops [
  ⟨S [t,f],m (.c (.bool f)),o⟩]))
def c29_o3 : CCode:=(.trim [[],[f]] (.ops [
  ⟨S [f,t],m (.c (.int .i64 0)),o⟩]))
def c29_o4 : CCode:=(.trim [[],[f],[f,t]] (.ops [
  ⟨S [f,f,t],m (.s [f,t]),o⟩,
  ⟨S [t,f,t],m (.s []),o⟩,
  ⟨S [f,t,t],.len 1 (.s [t,f,t]),o⟩,
  ⟨S [t,t,t],.bin .lss (.s [f,f,t]) (.s [f,t,t]),o⟩]))
def c29_o5 : CCode:=(.trim [[],[f],[f,t]] (.draw 0 [
  ⟨S [f,t,f,f],m (.s []),o⟩,
  ⟨S [t,t,f,f],m (.s [f,t]),o⟩,
  ⟨S [f,f,t,f],.idxSl 1 (.s [f,t,f,f]) (.s [t,t,f,f]),o⟩,
  ⟨S [t,f,t,f],.load o (.s [f,f,t,f]),o⟩,
  ⟨S [f,t,t,f],m (.s [f]),o⟩,
  ⟨S [t,t,t,f],m (.s [f,t]),o⟩,
  ⟨S [f,f,f,t],.idxSl 1 (.s [f,t,t,f]) (.s [t,t,t,f]),o⟩,
  ⟨S [t,f,f,t],.load o (.s [f,f,f,t]),o⟩,
  ⟨S [f,t,f,t],.bin .neq (.s [t,f,t,f]) (.s [t,f,f,t]),o⟩]
  [(3,7)] [[],[],[0,1],[0,1,2],[],[],[4,5],[4,5,6],(r 8)]))
def c29_o6 : CCode:=(.trim [] (.ops [
  ⟨S [t,f],m (.c (.bool f)),o⟩]))
def c29_o7 : CCode:=(.trim [[],[f],[f,t]] (.ops [
  ⟨S [f,f,f,f],m (.s [f,t]),o⟩,
  ⟨S [t,f,f,f],.bin .add (.s [f,f,f,f]) (.c (.int .i64 1)),o⟩,
  ⟨S [f,t],m (.s [t,f,f,f]),o⟩]))
def c29_b0 : CCode:=((.seq (.seq c29_o4
 (.cond (.s [t,t,t]) .skip (.exit 0)))
 (.seq (.block 1 (.seq c29_o5
 (.cond (.s [f,t,f,t]) (.seq c29_o6
 .ret) .skip)))
 c29_o7)))
def c29_l0 : CCode:=(.loop [[],[f],[f,t]] c29_b0)
def c29_o8 : CCode:=(.trim [] (.ops [
  ⟨S [t,f],m (.c (.bool t)),o⟩]))
def c29 : CFunc:=({ params:=[[],[f]],results:=[.slot [t,f]],shared:=f,body:=(.seq c29_o0
 (.seq (.seq c29_o1
 (.cond (.s [t,t,f]) (.seq c29_o2
 .ret) .skip))
 (.seq (.seq c29_o3
 (.block 0 c29_l0))
 (.seq c29_o8
 .ret)))) })
def c32_o0 : CCode:=(.trim [[],[f],[t],[f,f]] (.ops [
  ⟨S [t,f],.box o (.s []),o⟩,
  ⟨S [t,f,f],m (.c (.nils)),o⟩,
  ⟨S [f,t,f],m (.c (.int .i64 0)),o⟩]))
def c32_o1 : CCode:=(.trim [[f],[t],[f,f],[t,f]] (.ops [
  ⟨S [t,f,t,f],.load (S 3) (.s [t,f]),o⟩,
  ⟨S [f,t,t,f],.call f (.c (.func 57 [])) [(.s [t,f,t,f])],o⟩,
  ⟨S [t,t,t,f],.un .not (.s [f,t,t,f]),o⟩,
  ⟨S [f,f,f,t],m (.s [t,t,t,f]),o⟩,
  ⟨S [t,f,f,t],m (.s [f]),S ([f,f,f,t],f)⟩,
  ⟨S [f,t,f,t],.call f (.c (.func 60 [])) [(.s [t,f,f,t]),(.c (.int .i64 1)),(.c (.int .i64 5))],S ([f,f,f,t],f)⟩,
  ⟨S [t,t,f,t],.un .not (.s [f,t,f,t]),S ([f,f,f,t],f)⟩,
  ⟨S [f,f,t,t],.pick (.s [f,f,f,t]) (.c (.bool t)) (.s [t,t,f,t]),o⟩,
  ⟨S [t,f,t,t],m (.s [f,f,t,t]),o⟩,
  ⟨S [f,t,t,t],m (.s [t]),S ([t,f,t,t],f)⟩,
  ⟨S [t,t,t,t],.call f (.c (.func 60 [])) [(.s [f,t,t,t]),(.c (.int .i64 0)),(.c (.int .i64 40))],S ([t,f,t,t],f)⟩,
  ⟨S [f,f,f,f,f],.un .not (.s [t,t,t,t]),S ([t,f,t,t],f)⟩,
  ⟨S [t,f,f,f,f],.pick (.s [t,f,t,t]) (.c (.bool t)) (.s [f,f,f,f,f]),o⟩]))
def c32_o2 : CCode:=(.trim [] (.ops [
  ⟨S [t,f,f],m (.c (.nils)),o⟩,
  ⟨S [f,t,f],m (.c (.int .i64 2)),o⟩]))
def c32_o3 : CCode:=(.trim [[f],[t],[f,f],[t,f]] (.ops [
  ⟨S [f,t,f,f,f],.load (S 3) (.s [t,f]),o⟩,
  ⟨S [t,t,f,f,f],m (.s [f]),o⟩,
  ⟨S [f,f,t,f,f],.call f (.c (.func 61 [])) [(.s [f,t,f,f,f]),(.s [t,t,f,f,f])],o⟩,
  ⟨S [t,t,f],m (.s [f,f,t,f,f]),o⟩]))
def c32_o4 : CCode:=(.trim [[t],[f,f],[t,t,f]] (.ops [
  ⟨S [f,t,t,f,f],m (.s [t,t,f]),o⟩,
  ⟨S [t,t,t,f,f],m (.s [t]),o⟩,
  ⟨S [f,f,f,t,f],.call f (.c (.func 62 [])) [(.s [f,t,t,f,f]),(.s [t,t,t,f,f])],o⟩,
  ⟨S [t,f,t,f,f],m (.s [f,f,f,t,f]),o⟩,
  ⟨S [t,f,f,t,f],.extract 0 (.s [t,f,t,f,f]),o⟩,
  ⟨S [f,t,f,t,f],.extract 1 (.s [t,f,t,f,f]),o⟩,
  ⟨S [f,f,t],m (.s [t,f,f,t,f]),o⟩,
  ⟨S [t,f,t],m (.s [f,t,f,t,f]),o⟩]))
def c32_o5 : CCode:=(.trim [[t],[f,f],[t,t,f],[f,f,t],[t,f,t]] (.ops [
  ⟨S [t,t,f,t,f],m (.s [t,f,t]),o⟩,
  ⟨S [f,f,t,t,f],.un .not (.s [t,t,f,t,f]),o⟩]))
def c32_o6 : CCode:=(.trim [] (.ops [
  ⟨S [t,f,f],m (.c (.nils)),o⟩,
  ⟨S [f,t,f],m (.c (.int .i64 5)),o⟩]))
def c32_o7 : CCode:=(.trim [[t],[f,f],[t,t,f],[f,f,t]] (.ops [
  ⟨S [t,f,t,t,f],m (.s [t]),o⟩,
  ⟨S [f,t,t,t,f],.bin .eql (.s [t,f,t,t,f]) (.c (.int .i64 0)),o⟩]))
def c32_o8 : CCode:=(.trim [[t],[f,f],[t,t,f]] (.ops [
  ⟨S [t,t,t,t,f],.buildSlice o 1 1 [.int .i64 0] [(0,1,(.c (.int .i64 1)))],o⟩,
  ⟨S [f,f,f,f,t],.buildSlice o 1 1 [.nils] [(0,1,(.s [t,t,t,t,f]))],o⟩,
  ⟨S [f,f,t],m (.s [f,f,f,f,t]),o⟩]))
def c32_o9 : CCode:=(.trim [[t],[f,f],[t,t,f],[f,f,t]] (.ops [
  ⟨S [f,t,f,f,t],m (.s [f,f,t]),o⟩,
  ⟨S [t,t,f,f,t],m (.s [t]),o⟩,
  ⟨S [f,f,t,f,t],.bin .sub (.s [t,t,f,f,t]) (.c (.int .i64 1)),o⟩,
  ⟨S [t,f,t,f,t],.minmax t (.s [f,f,t,f,t]) (.c (.int .i64 0)),o⟩,
  ⟨S [f,t,t,f,t],.idxSl 1 (.s [f,t,f,f,t]) (.s [t,f,t,f,t]),o⟩,
  ⟨S [t,t,t,f,t],.load o (.s [f,t,t,f,t]),o⟩,
  ⟨S [f,f,f,t,t],.call f (.c (.func 63 [])) [(.s [t,t,t,f,t]),(.c (.int .i64 1152921504606846976))],o⟩,
  ⟨S [t,f,f,f,t],m (.s [f,f,f,t,t]),o⟩,
  ⟨S [t,f,f,t,t],.extract 0 (.s [t,f,f,f,t]),o⟩,
  ⟨S [f,t,f,t,t],.extract 1 (.s [t,f,f,f,t]),o⟩,
  ⟨S [f,t,t],m (.s [t,f,f,t,t]),o⟩,
  ⟨S [t,t,t],m (.s [f,t,f,t,t]),o⟩]))
def c32_o10 : CCode:=(.trim [[t],[f,f],[t,t,f],[f,f,t],[f,t,t]] (.ops [
  ⟨S [t,t,f,t,t],m (.s [f,f]),o⟩,
  ⟨S [f,f,t,t,t],m (.s [f,t,t]),o⟩,
  ⟨S [t,f,t,t,t],.bin .sub (.s [f,f,t,t,t]) (.c (.int .i64 1)),o⟩,
  ⟨S [f,t,t,t,t],.call f (.c (.func 60 [])) [(.s [t,t,f,t,t]),(.c (.int .i64 0)),(.s [t,f,t,t,t])],o⟩,
  ⟨S [t,t,t,t,t],.un .not (.s [f,t,t,t,t]),o⟩]))
def c32_o11 : CCode:=(.trim [] (.ops [
  ⟨S [t,f,f],m (.c (.nils)),o⟩,
  ⟨S [f,t,f],m (.c (.int .i64 2)),o⟩]))
def c32_o12 : CCode:=(.trim [[t],[f,f],[t,t,f],[f,f,t]] (.ops [
  ⟨S [f,f,f,f],m (.c (.nils)),o⟩]))
def c32_o13 : CCode:=(.trim [[t],[f,f],[t,t,f],[f,f,t],[f,f,f,f]] (.ops [
  ⟨S [t,f,f,f],m (.c (.int .i64 (-1))),o⟩]))
def c32_o14 : CCode:=(.trim [[t],[f,f],[t,t,f],[f,f,t],[f,f,f,f],[t,f,f,f]] (.ops [
  ⟨S [f,f,f,f,f,f],m (.s [t]),o⟩,
  ⟨S [t,f,f,f,f,f],.bin .sub (.s [f,f,f,f,f,f]) (.c (.int .i64 1)),o⟩,
  ⟨S [f,t,f,f],m (.s [t,f,f,f,f,f]),o⟩]))
def c32_o15 : CCode:=(.trim [[f,f],[t,t,f],[f,f,t],[f,f,f,f],[t,f,f,f],[f,t,f,f]] (.ops [
  ⟨S [f,t,f,f,f,f],m (.s [f,t,f,f]),o⟩,
  ⟨S [t,t,f,f,f,f],.bin .geq (.s [f,t,f,f,f,f]) (.c (.int .i64 0)),o⟩]))
def c32_o16 : CCode:=(.trim [[f,f],[t,t,f],[f,f,t],[f,f,f,f],[t,f,f,f],[f,t,f,f]] (.ops [
  ⟨S [f,t,t,f,f,f],m (.s [t,t,f]),o⟩,
  ⟨S [t,t,t,f,f,f],.nilCheck (.s [f,t,t,f,f,f]),o⟩,
  ⟨S [f,f,f,t,f,f],.fieldAddr 0 (.s [t,t,t,f,f,f]),o⟩,
  ⟨S [t,f,f,t,f,f],.load o (.s [f,f,f,t,f,f]),o⟩,
  ⟨S [f,t,f,t,f,f],.len 1 (.s [t,f,f,t,f,f]),o⟩,
  ⟨S [t,t,f,t,f,f],m (.c (.int .i64 0)),o⟩]))
def c32_o17 : CCode:=(.trim [[f,f],[t,t,f],[f,f,t],[f,f,f,f],[t,f,f,f],[f,t,f,f],[t,f,f,t,f,f],[f,t,f,t,f,f],[t,t,f,t,f,f]] (.ops [
  ⟨S [f,f,t,t,f,f],.bin .lss (.s [t,t,f,t,f,f]) (.s [f,t,f,t,f,f]),o⟩]))
def c32_o18 : CCode:=(.trim [[f,f],[t,t,f],[f,f,t],[f,f,f,f],[t,f,f,f],[f,t,f,f],[t,f,f,t,f,f],[f,t,f,t,f,f],[t,t,f,t,f,f]] (.ops [
  ⟨S [t,f,t,t,f,f],m (.s [t,t,f,t,f,f]),o⟩,
  ⟨S [f,t,t,t,f,f],.idxSl 1 (.s [t,f,f,t,f,f]) (.s [t,t,f,t,f,f]),o⟩,
  ⟨S [t,t,t,t,f,f],.load o (.s [f,t,t,t,f,f]),o⟩,
  ⟨S [t,t,f,f],m (.s [t,f,t,t,f,f]),o⟩,
  ⟨S [f,f,t,f],m (.s [t,t,t,t,f,f]),o⟩]))
def c32_o19 : CCode:=(.trim [[f,f],[t,t,f],[f,f,t],[f,f,f,f],[t,f,f,f],[f,t,f,f],[t,t,f,f],[f,f,t,f],[t,f,f,t,f,f],[f,t,f,t,f,f],[t,t,f,t,f,f]] (.ops [
  ⟨S [f,f,f,f,t,f],m (.s [t,f,f,f]),o⟩,
  ⟨S [t,f,f,f,t,f],.bin .geq (.s [f,f,f,f,t,f]) (.c (.int .i64 0)),o⟩,
  ⟨S [f,t,f,f,t,f],m (.s [t,f,f,f,t,f]),o⟩,
  ⟨S [t,t,f,f,t,f],m (.s [t,t,f]),S ([f,t,f,f,t,f],t)⟩,
  ⟨S [f,f,t,f,t,f],.nilCheck (.s [t,t,f,f,t,f]),S ([f,t,f,f,t,f],t)⟩,
  ⟨S [t,f,t,f,t,f],.fieldAddr 2 (.s [f,f,t,f,t,f]),S ([f,t,f,f,t,f],t)⟩,
  ⟨S [f,t,t,f,t,f],.load o (.s [t,f,t,f,t,f]),S ([f,t,f,f,t,f],t)⟩,
  ⟨S [t,t,t,f,t,f],m (.s [t,f,f,f]),S ([f,t,f,f,t,f],t)⟩,
  ⟨S [f,f,f,t,t,f],.idxSl 1 (.s [f,t,t,f,t,f]) (.s [t,t,t,f,t,f]),S ([f,t,f,f,t,f],t)⟩,
  ⟨S [t,f,f,t,t,f],.load o (.s [f,f,f,t,t,f]),S ([f,t,f,f,t,f],t)⟩,
  ⟨S [f,t,f,t,t,f],m (.s [t,t,f,f]),S ([f,t,f,f,t,f],t)⟩,
  ⟨S [t,t,f,t,t,f],.call f (.c (.func 70 [])) [(.s [t,f,f,t,t,f]),(.s [f,t,f,t,t,f])],S ([f,t,f,f,t,f],t)⟩,
  ⟨S [f,f,t,t,t,f],.un .not (.s [t,t,f,t,t,f]),S ([f,t,f,f,t,f],t)⟩,
  ⟨S [t,f,t,t,t,f],.pick (.s [f,t,f,f,t,f]) (.s [f,f,t,t,t,f]) (.c (.bool f)),o⟩]))
def c32_o20 : CCode:=(.trim [[f,f],[t,t,f],[f,f,t],[f,f,f,f],[t,f,f,f],[f,t,f,f],[t,t,f,f],[f,f,t,f],[t,f,f,t,f,f],[f,t,f,t,f,f],[t,t,f,t,f,f]] (.ops [
  ⟨S [f,t,t,t,t,f],m (.s [f,f]),o⟩,
  ⟨S [t,t,t,t,t,f],m (.s [f,f,t]),o⟩,
  ⟨S [f,f,f,f,f,t],m (.s [f,t,f,f]),o⟩,
  ⟨S [t,f,f,f,f,t],.idxSl 1 (.s [t,t,t,t,t,f]) (.s [f,f,f,f,f,t]),o⟩,
  ⟨S [f,t,f,f,f,t],.load o (.s [t,f,f,f,f,t]),o⟩,
  ⟨S [t,t,f,f,f,t],m (.s [t,t,f,f]),o⟩,
  ⟨S [f,f,t,f,f,t],.idxSl 1 (.s [f,t,f,f,f,t]) (.s [t,t,f,f,f,t]),o⟩,
  ⟨S [t,f,t,f,f,t],.load o (.s [f,f,t,f,f,t]),o⟩,
  ⟨S [f,t,t,f,f,t],.bin .lss (.s [f,t,t,t,t,f]) (.s [t,f,t,f,f,t]),o⟩]))
def c32_o21 : CCode:=(.trim [[f,f],[t,t,f],[f,f,t],[f,f,f,f],[f,t,f,f],[t,t,f,f],[f,f,t,f]] (.ops [
  ⟨S [t,t,t,f,f,t],m (.s [f,f,f,f]),o⟩,
  ⟨S [f,f,f,t,f,t],m (.s [f,f,t,f]),o⟩,
  ⟨S [t,f,f,t,f,t],.buildSlice o 1 1 [.str []] [(0,1,(.s [f,f,f,t,f,t]))],o⟩,
  ⟨S [f,t,f,t,f,t],.append o 1 16 (.s [t,t,t,f,f,t]) (.s [t,f,f,t,f,t]),o⟩,
  ⟨S [f,f,f,f],m (.s [f,t,f,t,f,t]),o⟩]))
def c32_o22 : CCode:=(.trim [[f,f],[t,t,f],[f,f,t],[f,f,f,f],[f,t,f,f],[t,t,f,f]] (.ops [
  ⟨S [t,t,f,t,f,t],m (.s [t,t,f,f]),o⟩,
  ⟨S [t,f,f,f],m (.s [t,t,f,t,f,t]),o⟩]))
def c32_o23 : CCode:=(.trim [[f,f],[t,t,f],[f,f,t],[f,f,f,f],[t,f,f,f],[f,t,f,f],[t,t,f,f],[t,f,f,t,f,f],[f,t,f,t,f,f],[t,t,f,t,f,f]] (.ops [
  ⟨S [f,f,t,t,f,t],m (.s [f,f]),o⟩,
  ⟨S [t,f,t,t,f,t],m (.s [f,f,t]),o⟩,
  ⟨S [f,t,t,t,f,t],m (.s [f,t,f,f]),o⟩,
  ⟨S [t,t,t,t,f,t],.idxSl 1 (.s [t,f,t,t,f,t]) (.s [f,t,t,t,f,t]),o⟩,
  ⟨S [f,f,f,f,t,t],.load o (.s [t,t,t,t,f,t]),o⟩,
  ⟨S [t,f,f,f,t,t],m (.s [t,t,f,f]),o⟩,
  ⟨S [f,t,f,f,t,t],.idxSl 1 (.s [f,f,f,f,t,t]) (.s [t,f,f,f,t,t]),o⟩,
  ⟨S [t,t,f,f,t,t],.load o (.s [f,t,f,f,t,t]),o⟩,
  ⟨S [f,f,t,f,t,t],.bin .sub (.s [f,f,t,t,f,t]) (.s [t,t,f,f,t,t]),o⟩,
  ⟨S [f,f],m (.s [f,f,t,f,t,t]),o⟩]))
def c32_o24 : CCode:=(.trim [[f,f],[t,t,f],[f,f,t],[f,f,f,f],[t,f,f,f],[f,t,f,f],[t,f,f,t,f,f],[f,t,f,t,f,f],[t,t,f,t,f,f]] (.ops [
  ⟨S [t,f,t,f,t,t],.bin .add (.s [t,t,f,t,f,f]) (.c (.int .i64 1)),o⟩,
  ⟨S [t,t,f,t,f,f],m (.s [t,f,t,f,t,t]),o⟩]))
def c32_b0 : CCode:=((.seq c32_o17
 (.seq (.cond (.s [f,f,t,t,f,f]) .skip (.exit 2))
 (.seq (.block 3 (.seq c32_o18
 (.seq (.seq c32_o19
 (.cond (.s [t,f,t,t,t,f]) (.exit 3) .skip))
 (.seq (.seq c32_o20
 (.cond (.s [f,t,t,f,f,t]) (.seq c32_o21
 (.seq c32_o22
 (.exit 2))) .skip))
 c32_o23))))
 c32_o24))))
def c32_l0 : CCode:=(.loop [[f,f],[t,t,f],[f,f,t],[f,f,f,f],[t,f,f,f],[f,t,f,f],[t,f,f,t,f,f],[f,t,f,t,f,f],[t,t,f,t,f,f]] c32_b0)
def c32_o25 : CCode:=(.trim [[f,f],[t,t,f],[f,f,t],[f,f,f,f],[t,f,f,f],[f,t,f,f]] (.ops [
  ⟨S [f,f,t,f,f,f],m (.s [f,t,f,f]),o⟩,
  ⟨S [t,f,t,f,f,f],.bin .sub (.s [f,f,t,f,f,f]) (.c (.int .i64 1)),o⟩,
  ⟨S [f,t,f,f],m (.s [t,f,t,f,f,f]),o⟩]))
def c32_b1 : CCode:=((.seq (.seq c32_o15
 (.cond (.s [t,t,f,f,f,f]) .skip (.exit 0)))
 (.seq (.block 1 (.seq c32_o16
 (.block 2 c32_l0)))
 c32_o25)))
def c32_l1 : CCode:=(.loop [[f,f],[t,t,f],[f,f,t],[f,f,f,f],[t,f,f,f],[f,t,f,f]] c32_b1)
def c32_o26 : CCode:=(.trim [[f,f,f,f]] (.ops [
  ⟨S [f,t,t,f,t,t],m (.s [f,f,f,f]),o⟩,
  ⟨S [t,f,f],m (.s [f,t,t,f,t,t]),o⟩,
  ⟨S [f,t,f],m (.c (.int .i64 0)),o⟩]))
def c32 : CFunc:=({ params:=[[],[f],[t],[f,f]],results:=[.slot [t,f,f],.slot [f,t,f]],shared:=f,body:=(.seq c32_o0
 (.seq (.seq c32_o1
 (.cond (.s [t,f,f,f,f]) (.seq c32_o2
 .ret) .skip))
 (.seq c32_o3
 (.seq c32_o4
 (.seq (.seq c32_o5
 (.cond (.s [f,f,t,t,f]) (.seq c32_o6
 .ret) .skip))
 (.seq (.seq c32_o7
 (.cond (.s [f,t,t,t,f]) c32_o8 .skip))
 (.seq (.seq c32_o9
 (.seq c32_o10
 (.cond (.s [t,t,t,t,t]) (.seq c32_o11
 .ret) .skip)))
 (.seq c32_o12
 (.seq c32_o13
 (.seq (.seq c32_o14
 (.block 0 c32_l1))
 (.seq c32_o26
 .ret))))))))))) })
def c35_o0 : CCode:=(.trim [[],[f]] (.ops [
  ⟨S [t],.box o (.s []),o⟩,
  ⟨S [t,f],m (.c (.int .i64 0)),o⟩,
  ⟨S [f,t],m (.c (.int .i64 0)),o⟩]))
def c35_o1 : CCode:=(.trim [[f],[t]] (.ops [
  ⟨S [t,f,t],.load (S 3) (.s [t]),o⟩,
  ⟨S [f,t,t],.call f (.c (.func 57 [])) [(.s [t,f,t])],o⟩,
  ⟨S [t,t,t],.un .not (.s [f,t,t]),o⟩,
  ⟨S [f,f,f,f],m (.s [t,t,t]),o⟩,
  ⟨S [t,f,f,f],m (.s [f]),S ([f,f,f,f],f)⟩,
  ⟨S [f,t,f,f],.call f (.c (.func 60 [])) [(.s [t,f,f,f]),(.c (.int .i64 1)),(.c (.int .i64 5))],S ([f,f,f,f],f)⟩,
  ⟨S [t,t,f,f],.un .not (.s [f,t,f,f]),S ([f,f,f,f],f)⟩,
  ⟨S [f,f,t,f],.pick (.s [f,f,f,f]) (.c (.bool t)) (.s [t,t,f,f]),o⟩]))
def c35_o2 : CCode:=(.trim [] (.ops [
  ⟨S [t,f],m (.c (.int .i64 0)),o⟩,
  ⟨S [f,t],m (.c (.int .i64 2)),o⟩]))
def c35_o3 : CCode:=(.trim [[f],[t]] (.ops [
  ⟨S [t,f,t,f],.load (S 3) (.s [t]),o⟩,
  ⟨S [f,t,t,f],m (.s [f]),o⟩,
  ⟨S [t,t,t,f],.call f (.c (.func 61 [])) [(.s [t,f,t,f]),(.s [f,t,t,f])],o⟩,
  ⟨S [t,t],.alloc o [.nilp],o⟩,
  ⟨o,.store 1 (.s [t,t]) (.s [t,t,t,f]),o⟩]))
def c35_o4 : CCode:=(.trim [[t,t]] (.ops [
  ⟨S [f,f,f,t],.makeMap o,o⟩,
  ⟨S [f,f,f],.alloc o [.nilm],o⟩,
  ⟨o,.store 1 (.s [f,f,f]) (.s [f,f,f,t]),o⟩]))
def c35_o5 : CCode:=(.trim [[t,t],[f,f,f]] (.ops [
  ⟨S [t,f,f],.alloc o [.nilf],o⟩]))
def c35_o6 : CCode:=(.trim [[t,t],[f,f,f],[t,f,f]] (.ops [
  ⟨S [t,f,f,t],.makeFunc 73 [(.s [f,f,f]),(.s [t,t]),(.s [t,f,f])],o⟩,
  ⟨o,.store 1 (.s [t,f,f]) (.s [t,f,f,t]),o⟩]))
def c35_o7 : CCode:=(.trim [[t,t],[t,f,f]] (.ops [
  ⟨S [f,t,f],m (.c (.int .i64 0)),o⟩]))
def c35_o8 : CCode:=(.trim [[t,t],[t,f,f],[f,t,f]] (.ops [
  ⟨S [f,t,f,t],.load o (.s [t,t]),o⟩,
  ⟨S [t,t,f,t],.nilCheck (.s [f,t,f,t]),o⟩,
  ⟨S [f,f,t,t],.fieldAddr 0 (.s [t,t,f,t]),o⟩,
  ⟨S [t,f,t,t],.load o (.s [f,f,t,t]),o⟩,
  ⟨S [f,t,t,t],.len 1 (.s [t,f,t,t]),o⟩,
  ⟨S [t,t,t,t],m (.c (.int .i64 0)),o⟩]))
def c35_o9 : CCode:=(.trim [[t,f,f],[f,t,f],[f,t,t,t],[t,t,t,t]] (.ops [
  ⟨S [f,f,f,f,f],.bin .lss (.s [t,t,t,t]) (.s [f,t,t,t]),o⟩]))
def c35_o10 : CCode:=(.trim [[t,f,f],[f,t,f],[f,t,t,t],[t,t,t,t]] (.ops [
  ⟨S [t,f,f,f,f],m (.s [t,t,t,t]),o⟩,
  ⟨S [t,t,f],m (.s [t,f,f,f,f]),o⟩]))
def c35_o11 : CCode:=(.trim [[t,f,f],[f,t,f],[t,t,f],[f,t,t,t],[t,t,t,t]] (.ops [
  ⟨S [f,t,f,f,f],.load o (.s [t,f,f]),o⟩,
  ⟨S [t,t,f,f,f],m (.s [t,t,f]),o⟩,
  ⟨S [f,f,t,f,f],.call f (.s [f,t,f,f,f]) [(.s [t,t,f,f,f])],o⟩,
  ⟨S [f,f,t],m (.s [f,f,t,f,f]),o⟩]))
def c35_o12 : CCode:=(.trim [[t,f,f],[f,t,f],[f,f,t],[f,t,t,t],[t,t,t,t]] (.ops [
  ⟨S [t,f,t,f,f],m (.s [f,f,t]),o⟩,
  ⟨S [f,t,t,f,f],.bin .lss (.s [t,f,t,f,f]) (.c (.int .i64 0)),o⟩]))
def c35_o13 : CCode:=(.trim [] (.ops [
  ⟨S [t,f],m (.c (.int .i64 (-1))),o⟩,
  ⟨S [f,t],m (.c (.int .i64 0)),o⟩]))
def c35_o14 : CCode:=(.trim [[t,f,f],[f,t,f],[f,f,t],[f,t,t,t],[t,t,t,t]] (.ops [
  ⟨S [t,t,t,f,f],m (.s [f,t,f]),o⟩,
  ⟨S [f,f,f,t,f],m (.s [f,f,t]),o⟩,
  ⟨S [t,f,f,t,f],.minmax t (.s [t,t,t,f,f]) (.s [f,f,f,t,f]),o⟩,
  ⟨S [f,t,f],m (.s [t,f,f,t,f]),o⟩]))
def c35_o15 : CCode:=(.trim [[t,f,f],[f,t,f],[f,t,t,t],[t,t,t,t]] (.ops [
  ⟨S [f,t,f,t,f],.bin .add (.s [t,t,t,t]) (.c (.int .i64 1)),o⟩,
  ⟨S [t,t,t,t],m (.s [f,t,f,t,f]),o⟩]))
def c35_b0 : CCode:=((.seq c35_o9
 (.seq (.cond (.s [f,f,f,f,f]) .skip (.exit 0))
 (.seq (.block 1 (.seq c35_o10
 (.seq c35_o11
 (.seq (.seq c35_o12
 (.cond (.s [f,t,t,f,f]) (.seq c35_o13
 .ret) .skip))
 c35_o14))))
 c35_o15))))
def c35_l0 : CCode:=(.loop [[t,f,f],[f,t,f],[f,t,t,t],[t,t,t,t]] c35_b0)
def c35_o16 : CCode:=(.trim [[f,t,f]] (.ops [
  ⟨S [t,t,f,t,f],m (.s [f,t,f]),o⟩,
  ⟨S [t,f],m (.s [t,t,f,t,f]),o⟩,
  ⟨S [f,t],m (.c (.int .i64 0)),o⟩]))
def c35 : CFunc:=({ params:=[[],[f]],results:=[.slot [t,f],.slot [f,t]],shared:=f,body:=(.seq c35_o0
 (.seq (.seq c35_o1
 (.cond (.s [f,f,t,f]) (.seq c35_o2
 .ret) .skip))
 (.seq c35_o3
 (.seq c35_o4
 (.seq c35_o5
 (.seq c35_o6
 (.seq c35_o7
 (.seq (.seq c35_o8
 (.block 0 c35_l0))
 (.seq c35_o16
 .ret))))))))) })
def c39_o0 : CCode:=(.trim [[],[f]] (.ops [
  ⟨S [t],.box o (.s []),o⟩,
  ⟨S [t,f],m (.c (.bool f)),o⟩]))
def c39_o1 : CCode:=(.trim [[f],[t]] (.ops [
  ⟨S [f,t],m (.c (.int .i64 0)),o⟩]))
def c39_o2 : CCode:=(.trim [[f],[t],[f,t]] (.ops [
  ⟨S [f,f,f],m (.s [f,t]),o⟩,
  ⟨S [t,f,f],m (.s [f]),o⟩,
  ⟨S [f,t,f],.len 1 (.s [t,f,f]),o⟩,
  ⟨S [t,t,f],.bin .lss (.s [f,f,f]) (.s [f,t,f]),o⟩]))
def c39_o3 : CCode:=(.trim [[f],[t],[f,t]] (.draw 0 [
  ⟨S [f,t,t],m (.s [f]),o⟩,
  ⟨S [t,t,t],m (.s [f,t]),o⟩,
  ⟨S [f,f,f,f],.idxSl 1 (.s [f,t,t]) (.s [t,t,t]),o⟩,
  ⟨S [t,f,f,f],.load o (.s [f,f,f,f]),o⟩,
  ⟨S [f,t,f,f],.len 0 (.s [t,f,f,f]),o⟩,
  ⟨S [t,t,f,f],m (.s [f]),o⟩,
  ⟨S [f,f,t,f],.idxSl 1 (.s [t,t,f,f]) (.c (.int .i64 0)),o⟩,
  ⟨S [t,f,t,f],.load o (.s [f,f,t,f]),o⟩,
  ⟨S [f,t,t,f],.len 0 (.s [t,f,t,f]),o⟩,
  ⟨S [t,t,t,f],.bin .neq (.s [f,t,f,f]) (.s [f,t,t,f]),o⟩]
  [(3,7),(4,7),(3,8),(4,8)] [[],[],[0,1],[0,1,2],[0,1,2,3],[],[5],[5,6],[5,6,7],(r 9)]))
def c39_o4 : CCode:=(.trim [] (.ops [
  ⟨S [t,f],m (.c (.bool f)),o⟩]))
def c39_o5 : CCode:=(.trim [[f],[t],[f,t]] (.ops [
  ⟨S [t,t],m (.c (.int .i64 0)),o⟩]))
def c39_o6 : CCode:=(.trim [[f],[t],[f,t],[t,t]] (.ops [
  ⟨S [f,f,f,t],m (.s [t,t]),o⟩,
  ⟨S [t,f,f,t],m (.s [f]),o⟩,
  ⟨S [f,t,f,t],m (.s [f,t]),o⟩,
  ⟨S [t,t,f,t],.idxSl 1 (.s [t,f,f,t]) (.s [f,t,f,t]),o⟩,
  ⟨S [f,f,t,t],.load o (.s [t,t,f,t]),o⟩,
  ⟨S [t,f,t,t],.len 0 (.s [f,f,t,t]),o⟩,
  ⟨S [f,t,t,t],.bin .lss (.s [f,f,f,t]) (.s [t,f,t,t]),o⟩]))
def c39_o7 : CCode:=(.trim [[f],[t],[f,t],[t,t]] (.draw 0 [
  ⟨S [t,f,f,f,f],m (.s [f]),o⟩,
  ⟨S [f,t,f,f,f],m (.s [f,t]),o⟩,
  ⟨S [t,t,f,f,f],.idxSl 1 (.s [t,f,f,f,f]) (.s [f,t,f,f,f]),o⟩,
  ⟨S [f,f,t,f,f],.load o (.s [t,t,f,f,f]),o⟩,
  ⟨S [t,f,t,f,f],m (.s [t,t]),o⟩,
  ⟨S [f,t,t,f,f],.idxStr (.s [f,f,t,f,f]) (.s [t,f,t,f,f]),o⟩,
  ⟨S [t,t,t,f,f],.bin .lss (.s [f,t,t,f,f]) (.c (.int .u8 48)),o⟩,
  ⟨S [f,f,f,t,f],m (.s [t,t,t,f,f]),o⟩,
  ⟨S [t,f,f,t,f],m (.s [f]),S ([f,f,f,t,f],f)⟩,
  ⟨S [f,t,f,t,f],m (.s [f,t]),S ([f,f,f,t,f],f)⟩,
  ⟨S [t,t,f,t,f],.idxSl 1 (.s [t,f,f,t,f]) (.s [f,t,f,t,f]),S ([f,f,f,t,f],f)⟩,
  ⟨S [f,f,t,t,f],.load o (.s [t,t,f,t,f]),S ([f,f,f,t,f],f)⟩,
  ⟨S [t,f,t,t,f],m (.s [t,t]),S ([f,f,f,t,f],f)⟩,
  ⟨S [f,t,t,t,f],.idxStr (.s [f,f,t,t,f]) (.s [t,f,t,t,f]),S ([f,f,f,t,f],f)⟩,
  ⟨S [t,t,t,t,f],.bin .sub (.s [f,t,t,t,f]) (.c (.int .u8 48)),S ([f,f,f,t,f],f)⟩,
  ⟨S [f,f,f,f,t],.conv .i64 (.s [t,t,t,t,f]),S ([f,f,f,t,f],f)⟩,
  ⟨S [t,f,f,f,t],.fieldAddr 0 (.s [t]),S ([f,f,f,t,f],f)⟩,
  ⟨S [f,t,f,f,t],.load o (.s [t,f,f,f,t]),S ([f,f,f,t,f],f)⟩,
  ⟨S [t,t,f,f,t],.bin .geq (.s [f,f,f,f,t]) (.s [f,t,f,f,t]),S ([f,f,f,t,f],f)⟩,
  ⟨S [f,f,t,f,t],.pick (.s [f,f,f,t,f]) (.c (.bool t)) (.s [t,t,f,f,t]),o⟩]
  [(11,17)] [[],[],[0,1],[0,1,2],[],(r 5),(r 6),(r 7),(r 8),(r 8),(r 10),(r 11),(r 8),(r 13),(r 14),(r 15),(r 8),(r 8 ++ [16]),(r 18),(r 19)]))
def c39_o8 : CCode:=(.trim [] (.ops [
  ⟨S [t,f],m (.c (.bool f)),o⟩]))
def c39_o9 : CCode:=(.trim [[f],[t],[f,t],[t,t]] (.ops [
  ⟨S [t,t,t,t],m (.s [t,t]),o⟩,
  ⟨S [f,f,f,f,f],.bin .add (.s [t,t,t,t]) (.c (.int .i64 1)),o⟩,
  ⟨S [t,t],m (.s [f,f,f,f,f]),o⟩]))
def c39_b0 : CCode:=((.seq (.seq c39_o6
 (.cond (.s [f,t,t,t]) .skip (.exit 2)))
 (.seq (.block 3 (.seq c39_o7
 (.cond (.s [f,f,t,f,t]) (.seq c39_o8
 .ret) .skip)))
 c39_o9)))
def c39_l0 : CCode:=(.loop [[f],[t],[f,t],[t,t]] c39_b0)
def c39_o10 : CCode:=(.trim [[f],[t],[f,t]] (.ops [
  ⟨S [f,f,t],m (.s [f,t]),o⟩,
  ⟨S [t,f,t],.bin .add (.s [f,f,t]) (.c (.int .i64 1)),o⟩,
  ⟨S [f,t],m (.s [t,f,t]),o⟩]))
def c39_b1 : CCode:=((.seq (.seq c39_o2
 (.cond (.s [t,t,f]) .skip (.exit 0)))
 (.seq (.block 1 (.seq (.seq c39_o3
 (.cond (.s [t,t,t,f]) (.seq c39_o4
 .ret) .skip))
 (.seq c39_o5
 (.block 2 c39_l0))))
 c39_o10)))
def c39_l1 : CCode:=(.loop [[f],[t],[f,t]] c39_b1)
def c39_o11 : CCode:=(.trim [[f]] (.ops [
  ⟨S [t,f,t,f,t],m (.s [f]),o⟩,
  ⟨S [f,t,t,f,t],.len 1 (.s [t,f,t,f,t]),o⟩,
  ⟨S [t,t,t,f,t],.bin .geq (.s [f,t,t,f,t]) (.c (.int .i64 1)),o⟩,
  ⟨S [f,f,f,t,t],m (.s [t,t,t,f,t]),o⟩,
  ⟨S [t,f,f,t,t],m (.s [f]),S ([f,f,f,t,t],t)⟩,
  ⟨S [f,t,f,t,t],.len 1 (.s [t,f,f,t,t]),S ([f,f,f,t,t],t)⟩,
  ⟨S [t,t,f,t,t],.bin .leq (.s [f,t,f,t,t]) (.c (.int .i64 40)),S ([f,f,f,t,t],t)⟩,
  ⟨S [f,f,t,t,t],.pick (.s [f,f,f,t,t]) (.s [t,t,f,t,t]) (.c (.bool f)),o⟩,
  ⟨S [t,f,t,t,t],m (.s [f,f,t,t,t]),o⟩,
  ⟨S [f,t,t,t,t],m (.s [f]),S ([t,f,t,t,t],t)⟩,
  ⟨S [t,t,t,t,t],.idxSl 1 (.s [f,t,t,t,t]) (.c (.int .i64 0)),S ([t,f,t,t,t],t)⟩,
  ⟨S [f,f,f,f,f,f],.load o (.s [t,t,t,t,t]),S ([t,f,t,t,t],t)⟩,
  ⟨S [t,f,f,f,f,f],.len 0 (.s [f,f,f,f,f,f]),S ([t,f,t,t,t],t)⟩,
  ⟨S [f,t,f,f,f,f],.bin .geq (.s [t,f,f,f,f,f]) (.c (.int .i64 1)),S ([t,f,t,t,t],t)⟩,
  ⟨S [t,t,f,f,f,f],.pick (.s [t,f,t,t,t]) (.s [f,t,f,f,f,f]) (.c (.bool f)),o⟩,
  ⟨S [f,f,t,f,f,f],m (.s [t,t,f,f,f,f]),o⟩,
  ⟨S [t,f,t,f,f,f],m (.s [f]),S ([f,f,t,f,f,f],t)⟩,
  ⟨S [f,t,t,f,f,f],.idxSl 1 (.s [t,f,t,f,f,f]) (.c (.int .i64 0)),S ([f,f,t,f,f,f],t)⟩,
  ⟨S [t,t,t,f,f,f],.load o (.s [f,t,t,f,f,f]),S ([f,f,t,f,f,f],t)⟩,
  ⟨S [f,f,f,t,f,f],.len 0 (.s [t,t,t,f,f,f]),S ([f,f,t,f,f,f],t)⟩,
  ⟨S [t,f,f,t,f,f],.bin .leq (.s [f,f,f,t,f,f]) (.c (.int .i64 5)),S ([f,f,t,f,f,f],t)⟩,
  ⟨S [f,t,f,t,f,f],.pick (.s [f,f,t,f,f,f]) (.s [t,f,f,t,f,f]) (.c (.bool f)),o⟩,
  ⟨S [t,f],m (.s [f,t,f,t,f,f]),o⟩]))
def c39 : CFunc:=({ params:=[[],[f]],results:=[.slot [t,f]],shared:=f,body:=(.seq c39_o0
 (.seq (.seq c39_o1
 (.block 0 c39_l1))
 (.seq c39_o11
 .ret))) })
def c45_o0 : CCode:=(.trim [[],[f]] (.ops [
  ⟨S [t],.box o (.s []),o⟩,
  ⟨S [t,f],m (.c (.bool f)),o⟩,
  ⟨S [f,t],m (.c (.int .i64 0)),o⟩]))
def c45_o1 : CCode:=(.trim [[f],[t]] (.ops [
  ⟨S [t,t],.load (S 3) (.s [t]),o⟩,
  ⟨S [f,f,f],.call f (.c (.func 57 [])) [(.s [t,t])],o⟩,
  ⟨S [t,f,f],.un .not (.s [f,f,f]),o⟩,
  ⟨S [f,t,f],m (.s [t,f,f]),o⟩,
  ⟨S [t,t,f],.load (S 3) (.s [t]),S ([f,t,f],f)⟩,
  ⟨S [f,f,t],m (.s [f]),S ([f,t,f],f)⟩,
  ⟨S [t,f,t],.call f (.c (.func 77 [])) [(.s [t,t,f]),(.s [f,f,t])],S ([f,t,f],f)⟩,
  ⟨S [f,t,t],.un .not (.s [t,f,t]),S ([f,t,f],f)⟩,
  ⟨S [t,t,t],.pick (.s [f,t,f]) (.c (.bool t)) (.s [f,t,t]),o⟩]))
def c45_o2 : CCode:=(.trim [] (.ops [
  ⟨S [t,f],m (.c (.bool f)),o⟩,
  ⟨S [f,t],m (.c (.int .i64 2)),o⟩]))
def c45_o3 : CCode:=(.trim [[f],[t]] (.ops [
  ⟨S [f,f,f,f],.load (S 3) (.s [t]),o⟩,
  ⟨S [t,f,f,f],m (.s [f]),o⟩,
  ⟨S [f,t,f,f],.call f (.c (.func 78 [])) [(.s [f,f,f,f]),(.s [t,f,f,f])],o⟩,
  ⟨S [t,f],m (.s [f,t,f,f]),o⟩,
  ⟨S [f,t],m (.c (.int .i64 0)),o⟩]))
def c45 : CFunc:=({ params:=[[],[f]],results:=[.slot [t,f],.slot [f,t]],shared:=f,body:=(.seq c45_o0
 (.seq (.seq c45_o1
 (.cond (.s [t,t,t]) (.seq c45_o2
 .ret) .skip))
 (.seq c45_o3
 .ret))) })
def c51_o0 : CCode:=(.trim [[],[f]] (.ops [
  ⟨S [t],.box o (.s []),o⟩,
  ⟨S [t,f],m (.c (.nils)),o⟩,
  ⟨S [f,t],m (.c (.int .i64 0)),o⟩,
  ⟨S [t,t],m (.c (.int .i64 0)),o⟩]))
def c51_o1 : CCode:=(.trim [[f],[t]] (.ops [
  ⟨S [t,t,f,t],.load (S 3) (.s [t]),o⟩,
  ⟨S [f,f,t,t],.call f (.c (.func 57 [])) [(.s [t,t,f,t])],o⟩,
  ⟨S [t,f,t,t],.un .not (.s [f,f,t,t]),o⟩,
  ⟨S [f,t,t,t],m (.s [t,f,t,t]),o⟩,
  ⟨S [t,t,t,t],.load (S 3) (.s [t]),S ([f,t,t,t],f)⟩,
  ⟨S [f,f,f,f,f],m (.s [f]),S ([f,t,t,t],f)⟩,
  ⟨S [t,f,f,f,f],.call f (.c (.func 83 [])) [(.s [t,t,t,t]),(.s [f,f,f,f,f])],S ([f,t,t,t],f)⟩,
  ⟨S [f,t,f,f,f],.un .not (.s [t,f,f,f,f]),S ([f,t,t,t],f)⟩,
  ⟨S [t,t,f,f,f],.pick (.s [f,t,t,t]) (.c (.bool t)) (.s [f,t,f,f,f]),o⟩]))
def c51_o2 : CCode:=(.trim [] (.ops [
  ⟨S [t,f],m (.c (.nils)),o⟩,
  ⟨S [f,t],m (.c (.int .i64 0)),o⟩,
  ⟨S [t,t],m (.c (.int .i64 2)),o⟩]))
def c51_o3 : CCode:=(.trim [[f],[t]] (.draw 0 [
  ⟨S [f,f,t,f,f],.load (S 3) (.s [t]),o⟩,
  ⟨S [t,f,t,f,f],m (.s [f]),o⟩,
  ⟨S [f,t,t,f,f],.idxSl 1 (.s [t,f,t,f,f]) (.c (.int .i64 0)),o⟩,
  ⟨S [t,t,t,f,f],.load o (.s [f,t,t,f,f]),o⟩,
  ⟨S [f,f,f,t,f],.len 1 (.s [t,t,t,f,f]),o⟩,
  ⟨S [t,f,f,t,f],.call f (.c (.func 61 [])) [(.s [f,f,t,f,f]),(.s [f,f,f,t,f])],o⟩,
  ⟨S [f,f,f],m (.s [t,f,f,t,f]),o⟩]
  [(0,3),(0,4)] [[],[],[1],[1,2],[1,2,3],(r 5),(r 6)]))
def c51_o4 : CCode:=(.trim [[f],[f,f,f]] (.ops [
  ⟨S [f,t,f,t,f],.makeMap o,o⟩,
  ⟨S [t,f,f],m (.s [f,t,f,t,f]),o⟩]))
def c51_o5 : CCode:=(.trim [[f],[f,f,f],[t,f,f]] (.ops [
  ⟨S [t,t,f,t,f],m (.s [f]),o⟩,
  ⟨S [f,f,t,t,f],.len 1 (.s [t,t,f,t,f]),o⟩,
  ⟨S [t,f,t,t,f],.bin .sub (.s [f,f,t,t,f]) (.c (.int .i64 1)),o⟩,
  ⟨S [f,t,f],m (.s [t,f,t,t,f]),o⟩]))
def c51_o6 : CCode:=(.trim [[f],[f,f,f],[t,f,f],[f,t,f]] (.ops [
  ⟨S [f,t,t,t,f],m (.s [f,t,f]),o⟩,
  ⟨S [t,t,t,t,f],.bin .geq (.s [f,t,t,t,f]) (.c (.int .i64 0)),o⟩]))
def c51_o7 : CCode:=(.trim [[f],[f,f,f],[t,f,f],[f,t,f]] (.ops [
  ⟨S [f,t,f,f,t],m (.s [f]),o⟩,
  ⟨S [t,t,f,f,t],.len 1 (.s [f,t,f,f,t]),o⟩,
  ⟨S [f,f,t,f,t],.bin .sub (.s [t,t,f,f,t]) (.c (.int .i64 1)),o⟩,
  ⟨S [t,f,t,f,t],m (.s [f,t,f]),o⟩,
  ⟨S [f,t,t,f,t],.bin .sub (.s [f,f,t,f,t]) (.s [t,f,t,f,t]),o⟩,
  ⟨S [t,t,f],m (.s [f,t,t,f,t]),o⟩]))
def c51_o8 : CCode:=(.trim [[f],[f,f,f],[t,f,f],[f,t,f],[t,t,f]] (.ops [
  ⟨S [t,t,t,f,t],m (.s [f,f,f]),o⟩,
  ⟨S [f,f,f,t,t],.nilCheck (.s [t,t,t,f,t]),o⟩,
  ⟨S [t,f,f,t,t],.fieldAddr 0 (.s [f,f,f,t,t]),o⟩,
  ⟨S [f,t,f,t,t],.load o (.s [t,f,f,t,t]),o⟩,
  ⟨S [t,t,f,t,t],.len 1 (.s [f,t,f,t,t]),o⟩,
  ⟨S [f,f,t,t,t],m (.c (.int .i64 0)),o⟩]))
def c51_o9 : CCode:=(.trim [[f],[f,f,f],[t,f,f],[f,t,f],[t,t,f],[f,t,f,t,t],[t,t,f,t,t],[f,f,t,t,t]] (.ops [
  ⟨S [t,f,t,t,t],.bin .lss (.s [f,f,t,t,t]) (.s [t,t,f,t,t]),o⟩]))
def c51_o10 : CCode:=(.trim [[f],[f,f,f],[t,f,f],[f,t,f],[t,t,f],[f,t,f,t,t],[t,t,f,t,t],[f,f,t,t,t]] (.ops [
  ⟨S [f,t,t,t,t],m (.s [f,f,t,t,t]),o⟩,
  ⟨S [t,t,t,t,t],.idxSl 1 (.s [f,t,f,t,t]) (.s [f,f,t,t,t]),o⟩,
  ⟨S [f,f,f,f,f,f],.load o (.s [t,t,t,t,t]),o⟩,
  ⟨S [f,f,t],m (.s [f,t,t,t,t]),o⟩,
  ⟨S [t,f,t],m (.s [f,f,f,f,f,f]),o⟩]))
def c51_o11 : CCode:=(.trim [[f],[f,f,f],[t,f,f],[f,t,f],[t,t,f],[f,f,t],[t,f,t],[f,t,f,t,t],[t,t,f,t,t],[f,f,t,t,t]] (.ops [
  ⟨S [f,t,f,f,f,f],m (.s [f,f,f]),o⟩,
  ⟨S [t,t,f,f,f,f],m (.s [t,f,f]),o⟩,
  ⟨S [f,f,t,f,f,f],m (.s [f,f,t]),o⟩,
  ⟨S [t,f,t,f,f,f],m (.s [t,t,f]),o⟩,
  ⟨S [f,t,t,f,f,f],.call f (.c (.func 84 [])) [(.s [f,t,f,f,f,f]),(.s [t,t,f,f,f,f]),(.s [f,f,t,f,f,f]),(.s [t,f,t,f,f,f])],o⟩,
  ⟨S [t,f,f,f,f,f],m (.s [f,t,t,f,f,f]),o⟩,
  ⟨S [t,t,t,f,f,f],.extract 0 (.s [t,f,f,f,f,f]),o⟩,
  ⟨S [f,f,f,t,f,f],.extract 1 (.s [t,f,f,f,f,f]),o⟩,
  ⟨S [f,t,t],m (.s [t,t,t,f,f,f]),o⟩,
  ⟨S [t,t,t],m (.s [f,f,f,t,f,f]),o⟩]))
def c51_o12 : CCode:=(.trim [[f],[f,f,f],[t,f,f],[f,t,f],[t,t,f],[f,f,t],[t,f,t],[f,t,t],[t,t,t],[f,t,f,t,t],[t,t,f,t,t],[f,f,t,t,t]] (.ops [
  ⟨S [t,f,f,t,f,f],m (.s [t,t,t]),o⟩]))
def c51_o13 : CCode:=(.trim [[f],[f,f,f],[t,f,f],[f,t,f],[t,t,f],[f,f,t],[t,f,t],[f,t,t],[f,t,f,t,t],[t,t,f,t,t],[f,f,t,t,t]] (.ops [
  ⟨S [f,t,f,t,f,f],m (.s [t,f,f]),o⟩,
  ⟨S [t,t,f,t,f,f],m (.s [f,f,t]),o⟩,
  ⟨S [f,f,t,t,f,f],m (.s [t,t,f]),o⟩,
  ⟨S [t,f,t,t,f,f],.build [.int .i64 0,.int .i64 0] [(0,1,(.s [t,t,f,t,f,f])),(1,1,(.s [f,f,t,t,f,f]))],o⟩,
  ⟨S [f,t,t,t,f,f],m (.s [f,t,t]),o⟩,
  ⟨S [t,t,t,t,f,f],m (.s [f]),o⟩,
  ⟨S [f,f,f,f,t,f],m (.s [f,t,f]),o⟩,
  ⟨S [t,f,f,f,t,f],.idxSl 1 (.s [t,t,t,t,f,f]) (.s [f,f,f,f,t,f]),o⟩,
  ⟨S [f,t,f,f,t,f],.load o (.s [t,f,f,f,t,f]),o⟩,
  ⟨S [t,t,f,f,t,f],m (.s [t,f,t]),o⟩,
  ⟨S [f,f,t,f,t,f],.call f (.c (.func 85 [])) [(.s [f,t,f,f,t,f]),(.s [t,t,f,f,t,f])],o⟩,
  ⟨S [t,f,t,f,t,f],.bin .add (.s [f,t,t,t,f,f]) (.s [f,f,t,f,t,f]),o⟩,
  ⟨o,.mapUpdateA [.i .i64,.i .i64] (.s [f,t,f,t,f,f]) (.s [t,f,t,t,f,f]) (.s [t,f,t,f,t,f]),o⟩]))
def c51_o14 : CCode:=(.trim [[f],[f,f,f],[t,f,f],[f,t,f],[t,t,f],[f,t,f,t,t],[t,t,f,t,t],[f,f,t,t,t]] (.ops [
  ⟨S [f,t,t,f,t,f],.bin .add (.s [f,f,t,t,t]) (.c (.int .i64 1)),o⟩,
  ⟨S [f,f,t,t,t],m (.s [f,t,t,f,t,f]),o⟩]))
def c51_b0 : CCode:=((.seq c51_o9
 (.seq (.cond (.s [t,f,t,t,t]) .skip (.exit 2))
 (.seq (.block 3 (.seq c51_o10
 (.seq c51_o11
 (.seq c51_o12
 (.cond (.s [t,f,f,t,f,f]) c51_o13 .skip)))))
 c51_o14))))
def c51_l0 : CCode:=(.loop [[f],[f,f,f],[t,f,f],[f,t,f],[t,t,f],[f,t,f,t,t],[t,t,f,t,t],[f,f,t,t,t]] c51_b0)
def c51_o15 : CCode:=(.trim [[f],[f,f,f],[t,f,f],[f,t,f]] (.ops [
  ⟨S [f,f,f,f,t],m (.s [f,t,f]),o⟩,
  ⟨S [t,f,f,f,t],.bin .sub (.s [f,f,f,f,t]) (.c (.int .i64 1)),o⟩,
  ⟨S [f,t,f],m (.s [t,f,f,f,t]),o⟩]))
def c51_b1 : CCode:=((.seq (.seq c51_o6
 (.cond (.s [t,t,t,t,f]) .skip (.exit 0)))
 (.seq (.block 1 (.seq c51_o7
 (.seq c51_o8
 (.block 2 c51_l0))))
 c51_o15)))
def c51_l1 : CCode:=(.loop [[f],[f,f,f],[t,f,f],[f,t,f]] c51_b1)
def c51_o16 : CCode:=(.trim [[f],[f,f,f],[t,f,f]] (.ops [
  ⟨S [f,f,f,f],m (.c (.nils)),o⟩]))
def c51_o17 : CCode:=(.trim [[f],[f,f,f],[t,f,f],[f,f,f,f]] (.ops [
  ⟨S [t,t,t,f,t,f],m (.s [f,f,f]),o⟩,
  ⟨S [f,f,f,t,t,f],.nilCheck (.s [t,t,t,f,t,f]),o⟩,
  ⟨S [t,f,f,t,t,f],.fieldAddr 0 (.s [f,f,f,t,t,f]),o⟩,
  ⟨S [f,t,f,t,t,f],.load o (.s [t,f,f,t,t,f]),o⟩,
  ⟨S [t,t,f,t,t,f],.len 1 (.s [f,t,f,t,t,f]),o⟩,
  ⟨S [f,f,t,t,t,f],.makeSlice o 1 8 [.int .i64 0] (.s [t,t,f,t,t,f]),o⟩,
  ⟨S [t,f,f,f],m (.s [f,f,t,t,t,f]),o⟩]))
def c51_o18 : CCode:=(.trim [[f],[f,f,f],[t,f,f],[f,f,f,f],[t,f,f,f]] (.ops [
  ⟨S [t,f,t,t,t,f],m (.s [t,f,f,f]),o⟩,
  ⟨S [f,t,t,t,t,f],.len 1 (.s [t,f,t,t,t,f]),o⟩,
  ⟨S [t,t,t,t,t,f],m (.c (.int .i64 0)),o⟩]))
def c51_o19 : CCode:=(.trim [[f],[f,f,f],[t,f,f],[f,f,f,f],[t,f,f,f],[f,t,t,t,t,f],[t,t,t,t,t,f]] (.ops [
  ⟨S [f,f,f,f,f,t],.bin .lss (.s [t,t,t,t,t,f]) (.s [f,t,t,t,t,f]),o⟩]))
def c51_o20 : CCode:=(.trim [[f],[f,f,f],[t,f,f],[f,f,f,f],[t,f,f,f],[f,t,t,t,t,f],[t,t,t,t,t,f]] (.ops [
  ⟨S [t,f,f,f,f,t],m (.s [t,t,t,t,t,f]),o⟩,
  ⟨S [f,t,f,f],m (.s [t,f,f,f,f,t]),o⟩]))
def c51_o21 : CCode:=(.trim [[f],[f,f,f],[t,f,f],[f,f,f,f],[t,f,f,f],[f,t,f,f],[f,t,t,t,t,f],[t,t,t,t,t,f]] (.ops [
  ⟨S [f,t,f,f,f,t],m (.s [t,f,f,f]),o⟩,
  ⟨S [t,t,f,f,f,t],m (.s [f,t,f,f]),o⟩,
  ⟨S [f,f,t,f,f,t],m (.s [f,t,f,f]),o⟩,
  ⟨S [t,f,t,f,f,t],.idxSl 1 (.s [f,t,f,f,f,t]) (.s [t,t,f,f,f,t]),o⟩,
  ⟨o,.store 1 (.s [t,f,t,f,f,t]) (.s [f,f,t,f,f,t]),o⟩]))
def c51_o22 : CCode:=(.trim [[f],[f,f,f],[t,f,f],[f,f,f,f],[t,f,f,f],[f,t,t,t,t,f],[t,t,t,t,t,f]] (.ops [
  ⟨S [f,t,t,f,f,t],.bin .add (.s [t,t,t,t,t,f]) (.c (.int .i64 1)),o⟩,
  ⟨S [t,t,t,t,t,f],m (.s [f,t,t,f,f,t]),o⟩]))
def c51_b2 : CCode:=((.seq c51_o19
 (.seq (.cond (.s [f,f,f,f,f,t]) .skip (.exit 4))
 (.seq (.block 5 (.seq c51_o20
 c51_o21))
 c51_o22))))
def c51_l2 : CCode:=(.loop [[f],[f,f,f],[t,f,f],[f,f,f,f],[t,f,f,f],[f,t,t,t,t,f],[t,t,t,t,t,f]] c51_b2)
def c51_o23 : CCode:=(.trim [[f],[f,f,f],[t,f,f],[f,f,f,f],[t,f,f,f]] (.ops [
  ⟨S [t,t,f,f],m (.c (.int .i64 0)),o⟩]))
def c51_o24 : CCode:=(.trim [[f],[f,f,f],[t,f,f],[f,f,f,f],[t,f,f,f],[t,t,f,f]] (.ops [
  ⟨S [t,t,t,f,f,t],m (.s [f]),o⟩,
  ⟨S [f,f,f,t,f,t],.len 1 (.s [t,t,t,f,f,t]),o⟩,
  ⟨S [t,f,f,t,f,t],m (.c (.int .i64 0)),o⟩]))
def c51_o25 : CCode:=(.trim [[f],[f,f,f],[t,f,f],[f,f,f,f],[t,f,f,f],[t,t,f,f],[f,f,f,t,f,t],[t,f,f,t,f,t]] (.ops [
  ⟨S [f,t,f,t,f,t],.bin .lss (.s [t,f,f,t,f,t]) (.s [f,f,f,t,f,t]),o⟩]))
def c51_o26 : CCode:=(.trim [[f],[f,f,f],[t,f,f],[f,f,f,f],[t,f,f,f],[t,t,f,f],[f,f,f,t,f,t],[t,f,f,t,f,t]] (.ops [
  ⟨S [t,t,f,t,f,t],m (.s [t,f,f,t,f,t]),o⟩,
  ⟨S [f,f,t,f],m (.s [t,t,f,t,f,t]),o⟩]))
def c51_o27 : CCode:=(.trim [[f],[f,f,f],[t,f,f],[f,f,f,f],[t,f,f,f],[t,t,f,f],[f,f,t,f],[f,f,f,t,f,t],[t,f,f,t,f,t]] (.ops [
  ⟨S [f,f,t,t,f,t],.build [.int .i64 0,.int .i64 0] [(0,1,(.c (.int .i64 (-1)))),(1,1,(.c (.int .i64 0)))],o⟩,
  ⟨S [t,f,t,f],.alloc o [.int .i64 0,.int .i64 0],o⟩,
  ⟨o,.store 2 (.s [t,f,t,f]) (.s [f,f,t,t,f,t]),o⟩]))
def c51_o28 : CCode:=(.trim [[f],[f,f,f],[t,f,f],[f,f,f,f],[t,f,f,f],[t,t,f,f],[f,f,t,f],[t,f,t,f],[f,f,f,t,f,t],[t,f,f,t,f,t]] (.ops [
  ⟨S [t,f,t,t,f,t],m (.s [t,f,f,f]),o⟩,
  ⟨S [f,t,t,t,f,t],.len 1 (.s [t,f,t,t,f,t]),o⟩,
  ⟨S [t,t,t,t,f,t],m (.c (.int .i64 0)),o⟩]))
def c51_o29 : CCode:=(.trim [[f],[f,f,f],[t,f,f],[f,f,f,f],[t,t,f,f],[f,f,t,f],[t,f,t,f],[f,f,f,t,f,t],[t,f,f,t,f,t],[t,f,t,t,f,t],[f,t,t,t,f,t],[t,t,t,t,f,t]] (.ops [
  ⟨S [f,f,f,f,t,t],.bin .lss (.s [t,t,t,t,f,t]) (.s [f,t,t,t,f,t]),o⟩]))
def c51_o30 : CCode:=(.trim [[f],[f,f,f],[t,f,f],[f,f,f,f],[t,t,f,f],[f,f,t,f],[t,f,t,f],[f,f,f,t,f,t],[t,f,f,t,f,t],[t,f,t,t,f,t],[f,t,t,t,f,t],[t,t,t,t,f,t]] (.ops [
  ⟨S [t,f,f,f,t,t],.idxSl 1 (.s [t,f,t,t,f,t]) (.s [t,t,t,t,f,t]),o⟩,
  ⟨S [f,t,f,f,t,t],.load o (.s [t,f,f,f,t,t]),o⟩,
  ⟨S [t,t,t,f],m (.s [f,t,f,f,t,t]),o⟩]))
def c51_o31 : CCode:=(.trim [[f],[f,f,f],[t,f,f],[f,f,f,f],[t,t,f,f],[f,f,t,f],[t,f,t,f],[t,t,t,f],[f,f,f,t,f,t],[t,f,f,t,f,t],[t,f,t,t,f,t],[f,t,t,t,f,t],[t,t,t,t,f,t]] (.ops [
  ⟨S [t,t,f,f,t,t],m (.s [t,t,t,f]),o⟩,
  ⟨S [f,f,t,f,t,t],m (.s [f]),o⟩,
  ⟨S [t,f,t,f,t,t],.len 1 (.s [f,f,t,f,t,t]),o⟩,
  ⟨S [f,t,t,f,t,t],.bin .sub (.s [t,f,t,f,t,t]) (.c (.int .i64 1)),o⟩,
  ⟨S [t,t,t,f,t,t],m (.s [f,f,t,f]),o⟩,
  ⟨S [f,f,f,t,t,t],.bin .sub (.s [f,t,t,f,t,t]) (.s [t,t,t,f,t,t]),o⟩,
  ⟨S [t,f,f,t,t,t],.build [.int .i64 0,.int .i64 0] [(0,1,(.s [t,t,f,f,t,t])),(1,1,(.s [f,f,f,t,t,t]))],o⟩,
  ⟨S [f,f,f,t],.alloc o [.int .i64 0,.int .i64 0],o⟩,
  ⟨o,.store 2 (.s [f,f,f,t]) (.s [t,f,f,t,t,t]),o⟩]))
def c51_o32 : CCode:=(.trim [[f],[f,f,f],[t,f,f],[f,f,f,f],[t,t,f,f],[f,f,t,f],[t,f,t,f],[f,f,f,t],[f,f,f,t,f,t],[t,f,f,t,f,t],[t,f,t,t,f,t],[f,t,t,t,f,t],[t,t,t,t,f,t]] (.ops [
  ⟨S [t,t,f,t,t,t],m (.s [t,f,f]),o⟩,
  ⟨S [f,f,t,t,t,t],.load (S 2) (.s [f,f,f,t]),o⟩,
  ⟨S [t,f,t,t,t,t],.lookupA [.i .i64,.i .i64] (.int .i64 0) t (.s [t,t,f,t,t,t]) (.s [f,f,t,t,t,t]),o⟩,
  ⟨S [f,t,f,t,t,t],m (.s [t,f,t,t,t,t]),o⟩,
  ⟨S [f,t,t,t,t,t],.extract 0 (.s [f,t,f,t,t,t]),o⟩,
  ⟨S [t,t,t,t,t,t],.extract 1 (.s [f,t,f,t,t,t]),o⟩,
  ⟨S [t,f,f,t],m (.s [f,t,t,t,t,t]),o⟩,
  ⟨S [f,t,f,t],m (.s [t,t,t,t,t,t]),o⟩]))
def c51_o33 : CCode:=(.trim [[f],[f,f,f],[t,f,f],[f,f,f,f],[t,t,f,f],[f,f,t,f],[t,f,t,f],[f,f,f,t],[t,f,f,t],[f,t,f,t],[f,f,f,t,f,t],[t,f,f,t,f,t],[t,f,t,t,f,t],[f,t,t,t,f,t],[t,t,t,t,f,t]] (.ops [
  ⟨S [f,f,f,f,f,f,f],m (.s [f,t,f,t]),o⟩,
  ⟨S [t,f,f,f,f,f,f],m (.s [f,f,f,f,f,f,f]),o⟩,
  ⟨S [f,t,f,f,f,f,f],.load (S 2) (.s [t,f,t,f]),S ([t,f,f,f,f,f,f],t)⟩,
  ⟨S [t,t,f,f,f,f,f],.build [.int .i64 0,.int .i64 0] [(0,1,(.c (.int .i64 (-1)))),(1,1,(.c (.int .i64 0)))],S ([t,f,f,f,f,f,f],t)⟩,
  ⟨S [f,f,t,f,f,f,f],.eqa [.i .i64,.i .i64] f (.s [f,t,f,f,f,f,f]) (.s [t,t,f,f,f,f,f]),S ([t,f,f,f,f,f,f],t)⟩,
  ⟨S [t,f,t,f,f,f,f],m (.s [f,f,t,f,f,f,f]),S ([t,f,f,f,f,f,f],t)⟩,
  ⟨S [f,t,t,f,f,f,f],m (.s [t,f,f,t]),S ([t,f,t,f,f,f,f],f)⟩,
  ⟨S [t,t,t,f,f,f,f],m (.s [t,f,f]),S ([t,f,t,f,f,f,f],f)⟩,
  ⟨S [f,f,f,t,f,f,f],.load (S 2) (.s [t,f,t,f]),S ([t,f,t,f,f,f,f],f)⟩,
  ⟨S [t,f,f,t,f,f,f],.lookupA [.i .i64,.i .i64] (.int .i64 0) f (.s [t,t,t,f,f,f,f]) (.s [f,f,f,t,f,f,f]),S ([t,f,t,f,f,f,f],f)⟩,
  ⟨S [f,t,f,t,f,f,f],.bin .gtr (.s [f,t,t,f,f,f,f]) (.s [t,f,f,t,f,f,f]),S ([t,f,t,f,f,f,f],f)⟩,
  ⟨S [t,t,f,t,f,f,f],.pick (.s [t,f,t,f,f,f,f]) (.c (.bool t)) (.s [f,t,f,t,f,f,f]),S ([t,f,f,f,f,f,f],t)⟩,
  ⟨S [f,f,t,t,f,f,f],.pick (.s [t,f,f,f,f,f,f]) (.s [t,t,f,t,f,f,f]) (.c (.bool f)),o⟩]))
def c51_o34 : CCode:=(.trim [[f],[f,f,f],[t,f,f],[f,f,f,f],[t,t,f,f],[f,f,t,f],[t,f,t,f],[f,f,f,t],[f,f,f,t,f,t],[t,f,f,t,f,t],[t,f,t,t,f,t],[f,t,t,t,f,t],[t,t,t,t,f,t]] (.ops [
  ⟨S [t,f,t,t,f,f,f],.load (S 2) (.s [f,f,f,t]),o⟩,
  ⟨o,.store 2 (.s [t,f,t,f]) (.s [t,f,t,t,f,f,f]),o⟩]))
def c51_o35 : CCode:=(.trim [[f],[f,f,f],[t,f,f],[f,f,f,f],[t,t,f,f],[f,f,t,f],[t,f,t,f],[f,f,f,t,f,t],[t,f,f,t,f,t],[t,f,t,t,f,t],[f,t,t,t,f,t],[t,t,t,t,f,t]] (.ops [
  ⟨S [f,t,t,t,f,f,f],.bin .add (.s [t,t,t,t,f,t]) (.c (.int .i64 1)),o⟩,
  ⟨S [t,t,t,t,f,t],m (.s [f,t,t,t,f,f,f]),o⟩]))
def c51_b3 : CCode:=((.seq c51_o29
 (.seq (.cond (.s [f,f,f,f,t,t]) .skip (.exit 8))
 (.seq (.block 9 (.seq c51_o30
 (.seq c51_o31
 (.seq c51_o32
 (.seq c51_o33
 (.cond (.s [f,f,t,t,f,f,f]) c51_o34 .skip))))))
 c51_o35))))
def c51_l3 : CCode:=(.loop [[f],[f,f,f],[t,f,f],[f,f,f,f],[t,t,f,f],[f,f,t,f],[t,f,t,f],[f,f,f,t,f,t],[t,f,f,t,f,t],[t,f,t,t,f,t],[f,t,t,t,f,t],[t,t,t,t,f,t]] c51_b3)
def c51_o36 : CCode:=(.trim [[f],[f,f,f],[t,f,f],[f,f,f,f],[t,t,f,f],[f,f,t,f],[t,f,t,f],[f,f,f,t,f,t],[t,f,f,t,f,t]] (.ops [
  ⟨S [t,t,t,t,f,f,f],.load (S 2) (.s [t,f,t,f]),o⟩,
  ⟨S [f,f,f,f,t,f,f],.build [.int .i64 0,.int .i64 0] [(0,1,(.c (.int .i64 (-1)))),(1,1,(.c (.int .i64 0)))],o⟩,
  ⟨S [t,f,f,f,t,f,f],.eqa [.i .i64,.i .i64] f (.s [t,t,t,t,f,f,f]) (.s [f,f,f,f,t,f,f]),o⟩]))
def c51_o37 : CCode:=(.trim [] (.ops [
  ⟨S [t,f],m (.c (.nils)),o⟩,
  ⟨S [f,t],m (.c (.int .i64 0)),o⟩,
  ⟨S [t,t],m (.c (.int .i64 6)),o⟩]))
def c51_o38 : CCode:=(.trim [[f],[f,f,f],[t,f,f],[f,f,f,f],[t,t,f,f],[f,f,t,f],[t,f,t,f],[f,f,f,t,f,t],[t,f,f,t,f,t]] (.ops [
  ⟨S [f,t,f,f,t,f,f],m (.s [f,f,t,f]),o⟩,
  ⟨S [t,t,f,f,t,f,f],.bin .eql (.s [f,t,f,f,t,f,f]) (.c (.int .i64 0)),o⟩]))
def c51_o39 : CCode:=(.trim [[f],[f,f,f],[t,f,f],[f,f,f,f],[t,f,t,f],[f,f,f,t,f,t],[t,f,f,t,f,t]] (.ops [
  ⟨S [f,f,t,f,t,f,f],m (.s [t,f,f]),o⟩,
  ⟨S [t,f,t,f,t,f,f],.load (S 2) (.s [t,f,t,f]),o⟩,
  ⟨S [f,t,t,f,t,f,f],.lookupA [.i .i64,.i .i64] (.int .i64 0) f (.s [f,f,t,f,t,f,f]) (.s [t,f,t,f,t,f,f]),o⟩,
  ⟨S [t,t,f,f],m (.s [f,t,t,f,t,f,f]),o⟩]))
def c51_o40 : CCode:=(.trim [[f],[f,f,f],[t,f,f],[f,f,f,f],[t,t,f,f],[t,f,t,f],[f,f,f,t,f,t],[t,f,f,t,f,t]] (.draw 2 [
  ⟨S [t,t,t,f,t,f,f],m (.s [f,f,f,f]),o⟩,
  ⟨S [f,f,f,t,t,f,f],m (.s [f,f,f]),o⟩,
  ⟨S [t,f,f,t,t,f,f],.nilCheck (.s [f,f,f,t,t,f,f]),o⟩,
  ⟨S [f,t,f,t,t,f,f],.fieldAddr 0 (.s [t,f,f,t,t,f,f]),o⟩,
  ⟨S [t,t,f,t,t,f,f],.load o (.s [f,t,f,t,t,f,f]),o⟩,
  ⟨S [f,f,t,t,t,f,f],.idxArr 2 1 (.s [t,f,t,f]) (.c (.int .i64 0)),o⟩,
  ⟨S [t,f,t,t,t,f,f],.load o (.s [f,f,t,t,t,f,f]),o⟩,
  ⟨S [f,t,t,t,t,f,f],.idxSl 1 (.s [t,t,f,t,t,f,f]) (.s [t,f,t,t,t,f,f]),o⟩,
  ⟨S [t,t,t,t,t,f,f],.load o (.s [f,t,t,t,t,f,f]),o⟩,
  ⟨S [f,f,f,f,f,t,f],.buildSlice (S 0) 1 1 [.str []] [(0,1,(.s [t,t,t,t,t,f,f]))],o⟩,
  ⟨S [t,f,f,f,f,t,f],.append (S 1) 1 16 (.s [t,t,t,f,t,f,f]) (.s [f,f,f,f,f,t,f]),o⟩,
  ⟨S [f,f,f,f],m (.s [t,f,f,f,f,t,f]),o⟩]
  [(4,6)] [[],[],[1],[1,2],[1,2,3],[],[5],[1,2,3,4,5,6],[1,2,3,4,5,6,7],[1,2,3,4,5,6,7,8],(r 10),(r 11)]))
def c51_o41 : CCode:=(.trim [[f],[f,f,f],[t,f,f],[f,f,f,f],[t,t,f,f],[t,f,t,f],[f,f,f,t,f,t],[t,f,f,t,f,t]] (.draw 0 [
  ⟨S [f,t,f,f,f,t,f],m (.s [f,f,f]),o⟩,
  ⟨S [t,t,f,f,f,t,f],.nilCheck (.s [f,t,f,f,f,t,f]),o⟩,
  ⟨S [f,f,t,f,f,t,f],.fieldAddr 2 (.s [t,t,f,f,f,t,f]),o⟩,
  ⟨S [t,f,t,f,f,t,f],.load o (.s [f,f,t,f,f,t,f]),o⟩,
  ⟨S [f,t,t,f,f,t,f],.idxArr 2 1 (.s [t,f,t,f]) (.c (.int .i64 0)),o⟩,
  ⟨S [t,t,t,f,f,t,f],.load o (.s [f,t,t,f,f,t,f]),o⟩,
  ⟨S [f,f,f,t,f,t,f],.idxSl 1 (.s [t,f,t,f,f,t,f]) (.s [t,t,t,f,f,t,f]),o⟩,
  ⟨S [t,f,f,t,f,t,f],.load o (.s [f,f,f,t,f,t,f]),o⟩,
  ⟨S [t,f,f,f],m (.s [t,f,f,t,f,t,f]),o⟩]
  [(3,5)] [[],[0],[0,1],[0,1,2],[],[4],(r 6),(r 7),(r 8)]))
def c51_o42 : CCode:=(.trim [[f],[f,f,f],[t,f,f],[f,f,f,f],[t,f,f,f],[t,t,f,f],[f,f,f,t,f,t],[t,f,f,t,f,t]] (.ops [
  ⟨S [f,t,f,t,f,t,f],.bin .add (.s [t,f,f,t,f,t]) (.c (.int .i64 1)),o⟩,
  ⟨S [t,f,f,t,f,t],m (.s [f,t,f,t,f,t,f]),o⟩]))
def c51_b4 : CCode:=((.seq c51_o25
 (.seq (.cond (.s [f,t,f,t,f,t]) .skip (.exit 6))
 (.seq (.block 7 (.seq c51_o26
 (.seq c51_o27
 (.seq (.seq c51_o28
 (.block 8 c51_l3))
 (.seq (.seq c51_o36
 (.cond (.s [t,f,f,f,t,f,f]) (.seq c51_o37
 .ret) .skip))
 (.seq (.seq c51_o38
 (.cond (.s [t,t,f,f,t,f,f]) c51_o39 .skip))
 (.seq c51_o40
 c51_o41)))))))
 c51_o42))))
def c51_l4 : CCode:=(.loop [[f],[f,f,f],[t,f,f],[f,f,f,f],[t,f,f,f],[t,t,f,f],[f,f,f,t,f,t],[t,f,f,t,f,t]] c51_b4)
def c51_o43 : CCode:=(.trim [[f,f,f,f],[t,t,f,f]] (.ops [
  ⟨S [t,t,f,t,f,t,f],m (.s [f,f,f,f]),o⟩,
  ⟨S [f,f,t,t,f,t,f],m (.s [t,t,f,f]),o⟩,
  ⟨S [t,f],m (.s [t,t,f,t,f,t,f]),o⟩,
  ⟨S [f,t],m (.s [f,f,t,t,f,t,f]),o⟩,
  ⟨S [t,t],m (.c (.int .i64 0)),o⟩]))
def c51 : CFunc:=({ params:=[[],[f]],results:=[.slot [t,f],.slot [f,t],.slot [t,t]],shared:=f,body:=(.seq c51_o0
 (.seq (.seq c51_o1
 (.cond (.s [t,t,f,f,f]) (.seq c51_o2
 .ret) .skip))
 (.seq c51_o3
 (.seq c51_o4
 (.seq (.seq c51_o5
 (.block 0 c51_l1))
 (.seq c51_o16
 (.seq c51_o17
 (.seq (.seq c51_o18
 (.block 4 c51_l2))
 (.seq c51_o23
 (.seq (.seq c51_o24
 (.block 6 c51_l4))
 (.seq c51_o43
 .ret))))))))))) })
def c54_o0 : CCode:=(.trim [[],[f]] (.ops [
  ⟨S [t,f],m (.c (.bool f)),o⟩]))
def c54_o1 : CCode:=(.trim [[],[f]] (.ops [
  ⟨S [f,t],m (.c (.int .i64 0)),o⟩]))
def c54_o2 : CCode:=(.trim [[],[f],[f,t]] (.ops [
  ⟨S [t,t],m (.s [f,t]),o⟩,
  ⟨S [f,f,f],m (.s []),o⟩,
  ⟨S [t,f,f],.len 1 (.s [f,f,f]),o⟩,
  ⟨S [f,t,f],.bin .lss (.s [t,t]) (.s [t,f,f]),o⟩,
  ⟨S [t,t,f],m (.s [f,t,f]),o⟩,
  ⟨S [f,f,t],m (.s [f,t]),S ([t,t,f],t)⟩,
  ⟨S [t,f,t],m (.s [f]),S ([t,t,f],t)⟩,
  ⟨S [f,t,t],.len 1 (.s [t,f,t]),S ([t,t,f],t)⟩,
  ⟨S [t,t,t],.bin .lss (.s [f,f,t]) (.s [f,t,t]),S ([t,t,f],t)⟩,
  ⟨S [f,f,f,f],.pick (.s [t,t,f]) (.s [t,t,t]) (.c (.bool f)),o⟩]))
def c54_o3 : CCode:=(.trim [[],[f],[f,t]] (.draw 0 [
  ⟨S [t,t,f,f],m (.s []),o⟩,
  ⟨S [f,f,t,f],m (.s [f,t]),o⟩,
  ⟨S [t,f,t,f],.idxSl 1 (.s [t,t,f,f]) (.s [f,f,t,f]),o⟩,
  ⟨S [f,t,t,f],.load o (.s [t,f,t,f]),o⟩,
  ⟨S [t,t,t,f],m (.s [f]),o⟩,
  ⟨S [f,f,f,t],m (.s [f,t]),o⟩,
  ⟨S [t,f,f,t],.idxSl 1 (.s [t,t,t,f]) (.s [f,f,f,t]),o⟩,
  ⟨S [f,t,f,t],.load o (.s [t,f,f,t]),o⟩,
  ⟨S [t,t,f,t],.bin .neq (.s [f,t,t,f]) (.s [f,t,f,t]),o⟩]
  [(3,7)] [[],[],[0,1],[0,1,2],[],[],[4,5],[4,5,6],(r 8)]))
def c54_o4 : CCode:=(.trim [[],[f],[f,t]] (.draw 0 [
  ⟨S [f,f,t,t],m (.s []),o⟩,
  ⟨S [t,f,t,t],m (.s [f,t]),o⟩,
  ⟨S [f,t,t,t],.idxSl 1 (.s [f,f,t,t]) (.s [t,f,t,t]),o⟩,
  ⟨S [t,t,t,t],.load o (.s [f,t,t,t]),o⟩,
  ⟨S [f,f,f,f,f],m (.s [f]),o⟩,
  ⟨S [t,f,f,f,f],m (.s [f,t]),o⟩,
  ⟨S [f,t,f,f,f],.idxSl 1 (.s [f,f,f,f,f]) (.s [t,f,f,f,f]),o⟩,
  ⟨S [t,t,f,f,f],.load o (.s [f,t,f,f,f]),o⟩,
  ⟨S [f,f,t,f,f],.bin .lss (.s [t,t,t,t]) (.s [t,t,f,f,f]),o⟩,
  ⟨S [t,f],m (.s [f,f,t,f,f]),o⟩]
  [(3,7)] [[],[],[0,1],[0,1,2],[],[],[4,5],[4,5,6],(r 8),(r 9)]))
def c54_o5 : CCode:=(.trim [[],[f],[f,t]] (.ops [
  ⟨S [t,f,f,f],m (.s [f,t]),o⟩,
  ⟨S [f,t,f,f],.bin .add (.s [t,f,f,f]) (.c (.int .i64 1)),o⟩,
  ⟨S [f,t],m (.s [f,t,f,f]),o⟩]))
def c54_b0 : CCode:=((.seq (.seq c54_o2
 (.cond (.s [f,f,f,f]) .skip (.exit 0)))
 (.seq (.block 1 (.seq c54_o3
 (.cond (.s [t,t,f,t]) (.seq c54_o4
 .ret) .skip)))
 c54_o5)))
def c54_l0 : CCode:=(.loop [[],[f],[f,t]] c54_b0)
def c54_o6 : CCode:=(.trim [] (.ops [
  ⟨S [t,f],m (.c (.bool f)),o⟩]))
def c54 : CFunc:=({ params:=[[],[f]],results:=[.slot [t,f]],shared:=f,body:=(.seq c54_o0
 (.seq (.seq c54_o1
 (.block 0 c54_l0))
 (.seq c54_o6
 .ret))) })
def c55_o0 : CCode:=(.trim [[],[f]] (.ops [
  ⟨S [t,f],m (.c (.int .i64 0)),o⟩]))
def c55_o1 : CCode:=(.trim [[],[f]] (.ops [
  ⟨S [f,t],m (.c (.int .i64 0)),o⟩]))
def c55_o2 : CCode:=(.trim [[],[f],[f,t]] (.ops [
  ⟨S [t,t],m (.c (.int .i64 0)),o⟩]))
def c55_o3 : CCode:=(.trim [[],[f],[f,t],[t,t]] (.ops [
  ⟨S [f,f,f],m (.s [t,t]),o⟩,
  ⟨S [t,f,f],m (.s [f]),o⟩,
  ⟨S [f,t,f],.len 1 (.s [t,f,f]),o⟩,
  ⟨S [t,t,f],.bin .lss (.s [f,f,f]) (.s [f,t,f]),o⟩]))
def c55_o4 : CCode:=(.trim [[],[f],[f,t],[t,t]] (.draw 0 [
  ⟨S [f,t,t],m (.s [f,t]),o⟩,
  ⟨S [t,t,t],m (.s []),o⟩,
  ⟨S [f,f,f,f],m (.s [t,t]),o⟩,
  ⟨S [t,f,f,f],.idxSl 1 (.s [t,t,t]) (.s [f,f,f,f]),o⟩,
  ⟨S [f,t,f,f],.load o (.s [t,f,f,f]),o⟩,
  ⟨S [t,t,f,f],m (.s [f]),o⟩,
  ⟨S [f,f,t,f],m (.s [t,t]),o⟩,
  ⟨S [t,f,t,f],.idxSl 1 (.s [t,t,f,f]) (.s [f,f,t,f]),o⟩,
  ⟨S [f,t,t,f],.load o (.s [t,f,t,f]),o⟩,
  ⟨S [t,t,t,f],.call f (.c (.func 86 [])) [(.s [f,t,f,f]),(.s [f,t,t,f])],o⟩,
  ⟨S [f,f,f,t],.bin .add (.s [f,t,t]) (.s [t,t,t,f]),o⟩,
  ⟨S [f,t],m (.s [f,f,f,t]),o⟩]
  [(4,8)] [[],[],[],[1,2],[1,2,3],[],[],[5,6],[5,6,7],[1,2,3,4,5,6,7,8],(r 10),(r 11)]))
def c55_o5 : CCode:=(.trim [[],[f],[f,t],[t,t]] (.ops [
  ⟨S [f,f,t],m (.s [t,t]),o⟩,
  ⟨S [t,f,t],.bin .add (.s [f,f,t]) (.c (.int .i64 1)),o⟩,
  ⟨S [t,t],m (.s [t,f,t]),o⟩]))
def c55_b0 : CCode:=((.seq (.seq c55_o3
 (.cond (.s [t,t,f]) .skip (.exit 0)))
 (.seq (.block 1 c55_o4)
 c55_o5)))
def c55_l0 : CCode:=(.loop [[],[f],[f,t],[t,t]] c55_b0)
def c55_o6 : CCode:=(.trim [[f,t]] (.ops [
  ⟨S [t,f,f,t],m (.s [f,t]),o⟩,
  ⟨S [t,f],m (.s [t,f,f,t]),o⟩]))
def c55 : CFunc:=({ params:=[[],[f]],results:=[.slot [t,f]],shared:=f,body:=(.seq c55_o0
 (.seq c55_o1
 (.seq (.seq c55_o2
 (.block 0 c55_l0))
 (.seq c55_o6
 .ret)))) })
def c56_o0 : CCode:=(.trim [[],[f],[t]] (.ops [
  ⟨S [t,t],m (.c (.int .i64 0)),o⟩]))
def c56_o1 : CCode:=(.trim [[],[f],[t]] (.ops [
  ⟨S [f,f,f],m (.s [f]),o⟩,
  ⟨S [t,f,f],m (.s []),o⟩,
  ⟨S [f,t,f],.len 1 (.s [t,f,f]),o⟩,
  ⟨S [t,t,f],.bin .lss (.s [f,f,f]) (.s [f,t,f]),o⟩,
  ⟨S [f,f,t],m (.s [t,t,f]),o⟩,
  ⟨S [t,f,t],m (.s [t]),S ([f,f,t],t)⟩,
  ⟨S [f,t,t],m (.s []),S ([f,f,t],t)⟩,
  ⟨S [t,t,t],m (.s [f]),S ([f,f,t],t)⟩,
  ⟨S [f,f,f,f],.idxSl 1 (.s [f,t,t]) (.s [t,t,t]),S ([f,f,t],t)⟩,
  ⟨S [t,f,f,f],.load o (.s [f,f,f,f]),S ([f,f,t],t)⟩,
  ⟨S [f,t,f,f],.len 1 (.s [t,f,f,f]),S ([f,f,t],t)⟩,
  ⟨S [t,t,f,f],.bin .lss (.s [t,f,t]) (.s [f,t,f,f]),S ([f,f,t],t)⟩,
  ⟨S [f,f,t,f],.pick (.s [f,f,t]) (.s [t,t,f,f]) (.c (.bool f)),o⟩]))
def c56_o2 : CCode:=(.trim [[],[f],[t]] (.ops [
  ⟨S [t,f,t,f],m (.s []),o⟩,
  ⟨S [f,t,t,f],m (.s [f]),o⟩,
  ⟨S [t,t,t,f],.idxSl 1 (.s [t,f,t,f]) (.s [f,t,t,f]),o⟩,
  ⟨S [f,f,f,t],.load o (.s [t,t,t,f]),o⟩,
  ⟨S [t,f,f,t],m (.s [t]),o⟩,
  ⟨S [f,t,f,t],.idxSl 1 (.s [f,f,f,t]) (.s [t,f,f,t]),o⟩,
  ⟨S [t,t,f,t],.load o (.s [f,t,f,t]),o⟩,
  ⟨S [f,f,t,t],.bin .and (.s [t,t,f,t]) (.c (.int .i64 1)),o⟩,
  ⟨S [t,t],m (.s [f,f,t,t]),o⟩]))
def c56_o3 : CCode:=(.trim [] (.ops [
  ⟨S [t,t],m (.c (.int .i64 1)),o⟩]))
def c56 : CFunc:=({ params:=[[],[f],[t]],results:=[.slot [t,t]],shared:=f,body:=(.seq c56_o0
 (.seq (.seq c56_o1
 (.cond (.s [f,f,t,f]) (.seq c56_o2
 .ret) .skip))
 (.seq c56_o3
 .ret))) })
def c57_o0 : CCode:=(.trim [[]] (.ops [
  ⟨S [f],.box o (.s []),o⟩,
  ⟨S [t],m (.c (.bool f)),o⟩]))
def c57_o1 : CCode:=(.trim [[f]] (.ops [
  ⟨S [f,f],.fieldAddr 0 (.s [f]),o⟩,
  ⟨S [t,f],.load o (.s [f,f]),o⟩,
  ⟨S [f,t],.call f (.c (.func 60 [])) [(.s [t,f]),(.c (.int .i64 1)),(.c (.int .i64 3))],o⟩,
  ⟨S [t,t],m (.s [f,t]),o⟩,
  ⟨S [f,f,f],.fieldAddr 1 (.s [f]),S ([t,t],t)⟩,
  ⟨S [t,f,f],.load o (.s [f,f,f]),S ([t,t],t)⟩,
  ⟨S [f,t,f],.fieldAddr 0 (.s [f]),S ([t,t],t)⟩,
  ⟨S [t,t,f],.load o (.s [f,t,f]),S ([t,t],t)⟩,
  ⟨S [f,f,t],.call f (.c (.func 87 [])) [(.s [t,f,f]),(.s [t,t,f])],S ([t,t],t)⟩,
  ⟨S [t,f,t],.pick (.s [t,t]) (.s [f,f,t]) (.c (.bool f)),o⟩,
  ⟨S [f,t,t],m (.s [t,f,t]),o⟩,
  ⟨S [t,t,t],.fieldAddr 2 (.s [f]),S ([f,t,t],t)⟩,
  ⟨S [f,f,f,f],.load o (.s [t,t,t]),S ([f,t,t],t)⟩,
  ⟨S [t,f,f,f],.fieldAddr 0 (.s [f]),S ([f,t,t],t)⟩,
  ⟨S [f,t,f,f],.load o (.s [t,f,f,f]),S ([f,t,t],t)⟩,
  ⟨S [t,t,f,f],.call f (.c (.func 87 [])) [(.s [f,f,f,f]),(.s [f,t,f,f])],S ([f,t,t],t)⟩,
  ⟨S [f,f,t,f],.pick (.s [f,t,t]) (.s [t,t,f,f]) (.c (.bool f)),o⟩,
  ⟨S [t],m (.s [f,f,t,f]),o⟩]))
def c57 : CFunc:=({ params:=[[]],results:=[.slot [t]],shared:=f,body:=(.seq c57_o0
 (.seq c57_o1
 .ret)) })
def c60_o0 : CCode:=(.trim [[],[f],[t]] (.ops [
  ⟨S [t,t],m (.c (.bool f)),o⟩]))
def c60_o1 : CCode:=(.trim [[],[f],[t]] (.ops [
  ⟨S [f,f,f],m (.s []),o⟩,
  ⟨S [t,f,f],m (.s [f]),o⟩,
  ⟨S [f,t,f],.bin .geq (.s [f,f,f]) (.s [t,f,f]),o⟩,
  ⟨S [t,t,f],m (.s [f,t,f]),o⟩,
  ⟨S [f,f,t],m (.s []),S ([t,t,f],t)⟩,
  ⟨S [t,f,t],m (.s [t]),S ([t,t,f],t)⟩,
  ⟨S [f,t,t],.bin .leq (.s [f,f,t]) (.s [t,f,t]),S ([t,t,f],t)⟩,
  ⟨S [t,t,t],.pick (.s [t,t,f]) (.s [f,t,t]) (.c (.bool f)),o⟩,
  ⟨S [t,t],m (.s [t,t,t]),o⟩]))
def c60 : CFunc:=({ params:=[[],[f],[t]],results:=[.slot [t,t]],shared:=f,body:=(.seq c60_o0
 (.seq c60_o1
 .ret)) })
def c61_o0 : CCode:=(.trim [[],[f]] (.ops [
  ⟨S [t],.box o (.s []),o⟩,
  ⟨S [t,f],m (.c (.nilp)),o⟩]))
def c61_o1 : CCode:=(.trim [[f],[t],[t,f]] (.ops [
  ⟨S [f,f,t],.makeMap o,o⟩,
  ⟨S [t,f,t],.build [.nils,.nilm,.nils] [(1,1,(.s [f,f,t]))],o⟩,
  ⟨S [f,t,t],.box o (.s [t,f,t]),o⟩,
  ⟨S [f,t],.alloc o [.nilp],o⟩,
  ⟨o,.store 1 (.s [f,t]) (.s [f,t,t]),o⟩]))
def c61_o2 : CCode:=(.trim [[f],[t],[t,f],[f,t]] (.ops [
  ⟨S [t,t,t],.fieldAddr 0 (.s [t]),o⟩,
  ⟨S [f,f,f,f],.load o (.s [t,t,t]),o⟩,
  ⟨S [t,f,f,f],m (.s [f]),o⟩,
  ⟨S [f,t,f,f],.call f (.c (.func 88 [])) [(.s [f,f,f,f]),(.s [t,f,f,f])],o⟩]))
def c61_o3 : CCode:=(.trim [[t],[f,t],[t,t]] (.ops [
  ⟨S [f,f,t,f],.load (S 3) (.s [t]),o⟩,
  ⟨S [t,f,t,f],m (.s [t,t]),o⟩,
  ⟨S [f,t,t,f],.call f (.c (.func 89 [])) [(.s [f,f,t,f]),(.s [t,f,t,f])],o⟩]))
def c61_o4 : CCode:=(.trim [[f,t],[t,t]] (.draw 0 [
  ⟨S [t,t,t,f],.load o (.s [f,t]),o⟩,
  ⟨S [f,f,f,t],.nilCheck (.s [t,t,t,f]),o⟩,
  ⟨S [t,f,f,t],.fieldAddr 1 (.s [f,f,f,t]),o⟩,
  ⟨S [f,t,f,t],.load o (.s [t,f,f,t]),o⟩,
  ⟨S [t,t,f,t],m (.s [t,t]),o⟩,
  ⟨S [f,f,t,t],.load o (.s [f,t]),o⟩,
  ⟨S [t,f,t,t],.nilCheck (.s [f,f,t,t]),o⟩,
  ⟨S [f,t,t,t],.fieldAddr 0 (.s [t,f,t,t]),o⟩,
  ⟨S [t,t,t,t],.load o (.s [f,t,t,t]),o⟩,
  ⟨S [f,f,f,f,f],.len 1 (.s [t,t,t,t]),o⟩,
  ⟨o,.mapUpdate (.s) (.s [f,t,f,t]) (.s [t,t,f,t]) (.s [f,f,f,f,f]),o⟩]
  [(0,5),(3,5),(0,8),(3,8),(0,9),(3,9)] [[],[0],[0,1],[0,1,2],[],[],[5],[5,6],[5,6,7],[5,6,7,8],(r 10)]))
def c61_o5 : CCode:=(.trim [[f,t],[t,t]] (.draw 2 [
  ⟨S [t,f,f,f,f],.load o (.s [f,t]),o⟩,
  ⟨S [f,t,f,f,f],.load o (.s [f,t]),o⟩,
  ⟨S [t,t,f,f,f],.nilCheck (.s [f,t,f,f,f]),o⟩,
  ⟨S [f,f,t,f,f],.fieldAddr 0 (.s [t,t,f,f,f]),o⟩,
  ⟨S [t,f,t,f,f],.load o (.s [f,f,t,f,f]),o⟩,
  ⟨S [f,t,t,f,f],m (.s [t,t]),o⟩,
  ⟨S [t,t,t,f,f],.buildSlice (S 0) 1 1 [.str []] [(0,1,(.s [f,t,t,f,f]))],o⟩,
  ⟨S [f,f,f,t,f],.append (S 1) 1 16 (.s [t,f,t,f,f]) (.s [t,t,t,f,f]),o⟩,
  ⟨S [t,f,f,t,f],.nilCheck (.s [t,f,f,f,f]),o⟩,
  ⟨S [f,t,f,t,f],.fieldAddr 0 (.s [t,f,f,t,f]),o⟩,
  ⟨o,.store 1 (.s [f,t,f,t,f]) (.s [f,f,f,t,f]),o⟩]
  [(0,1),(0,4),(0,6),(1,6),(4,6),(0,7)] [[],[],[1],[1,2],[1,2,3],[],[5],[1,2,3,4,5,6],(r 8),(r 9),(r 10)]))
def c61_r0 : CCode:=((.block 1 (.seq c61_o3
 (.cond (.s [f,t,t,f]) (.seq c61_o4
 c61_o5) .skip))))
def c61_o6 : CCode:=(.trim [[t],[f,t],[t,t,f,f]] (.ops [
  ⟨S [t,t],m (.s [t,t,f,f]),o⟩]))
def c61_o7 : CCode:=(.trim [[t],[f,t]] (.draw 1 [
  ⟨S [t,t,f,t,f],.load o (.s [f,t]),o⟩,
  ⟨S [f,f,t,t,f],.load o (.s [f,t]),o⟩,
  ⟨S [t,f,t,t,f],.nilCheck (.s [f,f,t,t,f]),o⟩,
  ⟨S [f,t,t,t,f],.fieldAddr 0 (.s [t,f,t,t,f]),o⟩,
  ⟨S [t,t,t,t,f],.load o (.s [f,t,t,t,f]),o⟩,
  ⟨S [f,f,f,f,t],.len 1 (.s [t,t,t,t,f]),o⟩,
  ⟨S [t,f,f,f,t],.makeSlice (S 0) 1 24 [.nils] (.s [f,f,f,f,t]),o⟩,
  ⟨S [f,t,f,f,t],.nilCheck (.s [t,t,f,t,f]),o⟩,
  ⟨S [t,t,f,f,t],.fieldAddr 2 (.s [f,t,f,f,t]),o⟩,
  ⟨o,.store 1 (.s [t,t,f,f,t]) (.s [t,f,f,f,t]),o⟩]
  [(0,1),(0,4),(0,5),(0,6)] [[],[],[1],[1,2],[1,2,3],[1,2,3,4],[1,2,3,4,5],(r 7),(r 8),(r 9)]))
def c61_o8 : CCode:=(.trim [[t],[f,t]] (.ops [
  ⟨S [f,f,t,f,t],.load o (.s [f,t]),o⟩,
  ⟨S [t,f,t,f,t],.nilCheck (.s [f,f,t,f,t]),o⟩,
  ⟨S [f,t,t,f,t],.fieldAddr 0 (.s [t,f,t,f,t]),o⟩,
  ⟨S [t,t,t,f,t],.load o (.s [f,t,t,f,t]),o⟩,
  ⟨S [f,f,f,t,t],.len 1 (.s [t,t,t,f,t]),o⟩,
  ⟨S [t,f,f,t,t],m (.c (.int .i64 0)),o⟩]))
def c61_o9 : CCode:=(.trim [[t],[f,t],[t,t,t,f,t],[f,f,f,t,t],[t,f,f,t,t]] (.ops [
  ⟨S [f,t,f,t,t],.bin .lss (.s [t,f,f,t,t]) (.s [f,f,f,t,t]),o⟩]))
def c61_o10 : CCode:=(.trim [[t],[f,t],[t,t,t,f,t],[f,f,f,t,t],[t,f,f,t,t]] (.ops [
  ⟨S [t,t,f,t,t],m (.s [t,f,f,t,t]),o⟩,
  ⟨S [f,f,t,t,t],.idxSl 1 (.s [t,t,t,f,t]) (.s [t,f,f,t,t]),o⟩,
  ⟨S [t,f,t,t,t],.load o (.s [f,f,t,t,t]),o⟩,
  ⟨S [f,f,f],m (.s [t,t,f,t,t]),o⟩,
  ⟨S [t,f,f],m (.s [t,f,t,t,t]),o⟩]))
def c61_o11 : CCode:=(.trim [[t],[f,t],[f,f,f],[t,f,f],[t,t,t,f,t],[f,f,f,t,t],[t,f,f,t,t]] (.ops [
  ⟨S [f,t,t,t,t],.load o (.s [f,t]),o⟩,
  ⟨S [t,t,t,t,t],.nilCheck (.s [f,t,t,t,t]),o⟩,
  ⟨S [f,f,f,f,f,f],.fieldAddr 0 (.s [t,t,t,t,t]),o⟩,
  ⟨S [t,f,f,f,f,f],.load o (.s [f,f,f,f,f,f]),o⟩,
  ⟨S [f,t,f,f,f,f],.len 1 (.s [t,f,f,f,f,f]),o⟩,
  ⟨S [t,t,f,f,f,f],m (.c (.int .i64 0)),o⟩]))
def c61_o12 : CCode:=(.trim [[t],[f,t],[f,f,f],[t,f,f],[t,t,t,f,t],[f,f,f,t,t],[t,f,f,t,t],[t,f,f,f,f,f],[f,t,f,f,f,f],[t,t,f,f,f,f]] (.ops [
  ⟨S [f,f,t,f,f,f],.bin .lss (.s [t,t,f,f,f,f]) (.s [f,t,f,f,f,f]),o⟩]))
def c61_o13 : CCode:=(.trim [[t],[f,t],[f,f,f],[t,f,f],[t,t,t,f,t],[f,f,f,t,t],[t,f,f,t,t],[t,f,f,f,f,f],[f,t,f,f,f,f],[t,t,f,f,f,f]] (.ops [
  ⟨S [t,f,t,f,f,f],m (.s [t,t,f,f,f,f]),o⟩,
  ⟨S [f,t,t,f,f,f],.idxSl 1 (.s [t,f,f,f,f,f]) (.s [t,t,f,f,f,f]),o⟩,
  ⟨S [t,t,t,f,f,f],.load o (.s [f,t,t,f,f,f]),o⟩,
  ⟨S [f,t,f],m (.s [t,f,t,f,f,f]),o⟩,
  ⟨S [t,t,f],m (.s [t,t,t,f,f,f]),o⟩]))
def c61_o14 : CCode:=(.trim [[t],[f,t],[f,f,f],[t,f,f],[f,t,f],[t,t,f],[t,t,t,f,t],[f,f,f,t,t],[t,f,f,t,t],[t,f,f,f,f,f],[f,t,f,f,f,f],[t,t,f,f,f,f]] (.ops [
  ⟨S [f,f,f,t,f,f],.load (S 3) (.s [t]),o⟩,
  ⟨S [t,f,f,t,f,f],m (.s [t,f,f]),o⟩,
  ⟨S [f,t,f,t,f,f],m (.s [t,t,f]),o⟩,
  ⟨S [t,t,f,t,f,f],.call f (.c (.func 90 [])) [(.s [f,f,f,t,f,f]),(.s [t,f,f,t,f,f]),(.s [f,t,f,t,f,f])],o⟩]))
def c61_o15 : CCode:=(.trim [[t],[f,t],[f,f,f],[t,f,f],[f,t,f],[t,t,t,f,t],[f,f,f,t,t],[t,f,f,t,t],[t,f,f,f,f,f],[f,t,f,f,f,f],[t,t,f,f,f,f]] (.draw 2 [
  ⟨S [f,f,t,t,f,f],.load o (.s [f,t]),o⟩,
  ⟨S [t,f,t,t,f,f],.nilCheck (.s [f,f,t,t,f,f]),o⟩,
  ⟨S [f,t,t,t,f,f],.fieldAddr 2 (.s [t,f,t,t,f,f]),o⟩,
  ⟨S [t,t,t,t,f,f],.load o (.s [f,t,t,t,f,f]),o⟩,
  ⟨S [f,f,f,f,t,f],m (.s [f,f,f]),o⟩,
  ⟨S [t,f,f,f,t,f],.load o (.s [f,t]),o⟩,
  ⟨S [f,t,f,f,t,f],.nilCheck (.s [t,f,f,f,t,f]),o⟩,
  ⟨S [t,t,f,f,t,f],.fieldAddr 2 (.s [f,t,f,f,t,f]),o⟩,
  ⟨S [f,f,t,f,t,f],.load o (.s [t,t,f,f,t,f]),o⟩,
  ⟨S [t,f,t,f,t,f],m (.s [f,f,f]),o⟩,
  ⟨S [f,t,t,f,t,f],.idxSl 1 (.s [f,f,t,f,t,f]) (.s [t,f,t,f,t,f]),o⟩,
  ⟨S [t,t,t,f,t,f],.load o (.s [f,t,t,f,t,f]),o⟩,
  ⟨S [f,f,f,t,t,f],m (.s [f,t,f]),o⟩,
  ⟨S [t,f,f,t,t,f],.buildSlice (S 0) 1 1 [.int .i64 0] [(0,1,(.s [f,f,f,t,t,f]))],o⟩,
  ⟨S [f,t,f,t,t,f],.append (S 1) 1 8 (.s [t,t,t,f,t,f]) (.s [t,f,f,t,t,f]),o⟩,
  ⟨S [t,t,f,t,t,f],.idxSl 1 (.s [t,t,t,t,f,f]) (.s [f,f,f,f,t,f]),o⟩,
  ⟨o,.store 1 (.s [t,t,f,t,t,f]) (.s [f,t,f,t,t,f]),o⟩]
  [(0,5),(3,5),(0,8),(3,8),(0,11),(3,11),(0,13),(3,13),(5,13),(8,13),(11,13),(0,14),(3,14)] [[],[0],[0,1],[0,1,2],[],[],[5],[5,6],[5,6,7],[],[5,6,7,8,9],[5,6,7,8,9,10],[],[12],[5,6,7,8,9,10,11,12,13],(r 15),(r 16)]))
def c61_o16 : CCode:=(.trim [[t],[f,t],[f,f,f],[t,f,f],[t,t,t,f,t],[f,f,f,t,t],[t,f,f,t,t],[t,f,f,f,f,f],[f,t,f,f,f,f],[t,t,f,f,f,f]] (.ops [
  ⟨S [f,f,t,t,t,f],.bin .add (.s [t,t,f,f,f,f]) (.c (.int .i64 1)),o⟩,
  ⟨S [t,t,f,f,f,f],m (.s [f,f,t,t,t,f]),o⟩]))
def c61_b1 : CCode:=((.seq c61_o12
 (.seq (.cond (.s [f,f,t,f,f,f]) .skip (.exit 4))
 (.seq (.block 5 (.seq c61_o13
 (.seq c61_o14
 (.cond (.s [t,t,f,t,f,f]) c61_o15 .skip))))
 c61_o16))))
def c61_l1 : CCode:=(.loop [[t],[f,t],[f,f,f],[t,f,f],[t,t,t,f,t],[f,f,f,t,t],[t,f,f,t,t],[t,f,f,f,f,f],[f,t,f,f,f,f],[t,t,f,f,f,f]] c61_b1)
def c61_o17 : CCode:=(.trim [[t],[f,t],[t,t,t,f,t],[f,f,f,t,t],[t,f,f,t,t]] (.ops [
  ⟨S [t,f,t,t,t,f],.bin .add (.s [t,f,f,t,t]) (.c (.int .i64 1)),o⟩,
  ⟨S [t,f,f,t,t],m (.s [t,f,t,t,t,f]),o⟩]))
def c61_b2 : CCode:=((.seq c61_o9
 (.seq (.cond (.s [f,t,f,t,t]) .skip (.exit 2))
 (.seq (.block 3 (.seq c61_o10
 (.seq c61_o11
 (.block 4 c61_l1))))
 c61_o17))))
def c61_l2 : CCode:=(.loop [[t],[f,t],[t,t,t,f,t],[f,f,f,t,t],[t,f,f,t,t]] c61_b2)
def c61_o18 : CCode:=(.trim [[f,t]] (.ops [
  ⟨S [f,t,t,t,t,f],.load o (.s [f,t]),o⟩,
  ⟨S [t,f],m (.s [f,t,t,t,t,f]),o⟩]))
def c61 : CFunc:=({ params:=[[],[f]],results:=[.slot [t,f]],shared:=f,body:=(.seq c61_o0
 (.seq c61_o1
 (.seq (.seq c61_o2
 (.block 0 (.range (.s [f,t,f,f]) [[t,t,f,f]] c61_o6 c61_r0)))
 (.seq c61_o7
 (.seq (.seq c61_o8
 (.block 2 c61_l2))
 (.seq c61_o18
 .ret)))))) })
def c62_o0 : CCode:=(.trim [[],[f]] (.ops [
  ⟨S [t,f],m (.c (.nils)),o⟩,
  ⟨S [f,t],m (.c (.bool f)),o⟩]))
def c62_o1 : CCode:=(.trim [[],[f]] (.ops [
  ⟨S [t,t],m (.c (.nils)),o⟩]))
def c62_o2 : CCode:=(.trim [[],[f],[t,t]] (.ops [
  ⟨S [f,t,f,f],m (.s [f]),o⟩,
  ⟨S [t,t,f,f],m (.c (.int .i64 0)),o⟩]))
def c62_o3 : CCode:=(.trim [[],[t,t],[f,t,f,f],[t,t,f,f]] (.ops [
  ⟨S [f,f,t,f],.bin .lss (.s [t,t,f,f]) (.s [f,t,f,f]),o⟩]))
def c62_o4 : CCode:=(.trim [[],[t,t],[f,t,f,f],[t,t,f,f]] (.ops [
  ⟨S [t,f,t,f],m (.s [t,t,f,f]),o⟩,
  ⟨S [f,f,f],m (.s [t,f,t,f]),o⟩]))
def c62_o5 : CCode:=(.trim [[],[t,t],[f,f,f],[f,t,f,f],[t,t,f,f]] (.ops [
  ⟨S [f,t,t,f],.buildSlice o 1 1 [.int .i64 0] [(0,1,(.c (.int .i64 1)))],o⟩,
  ⟨S [t,t,t,f],m (.s []),o⟩,
  ⟨S [f,f,f,t],.nilCheck (.s [t,t,t,f]),o⟩,
  ⟨S [t,f,f,t],.fieldAddr 0 (.s [f,f,f,t]),o⟩,
  ⟨S [f,t,f,t],.load o (.s [t,f,f,t]),o⟩,
  ⟨S [t,t,f,t],.len 1 (.s [f,t,f,t]),o⟩,
  ⟨S [f,f,t,t],.call f (.c (.func 91 [])) [(.s [f,t,t,f]),(.s [t,t,f,t])],o⟩,
  ⟨S [t,f,f],m (.s [f,f,t,t]),o⟩]))
def c62_o6 : CCode:=(.trim [[],[t,t],[f,f,f],[t,f,f],[f,t,f,f],[t,t,f,f]] (.ops [
  ⟨S [t,f,t,t],m (.s [t,f,f]),o⟩,
  ⟨S [f,t,t,t],.len 1 (.s [t,f,t,t]),o⟩,
  ⟨S [t,t,t,t],m (.c (.int .i64 0)),o⟩]))
def c62_o7 : CCode:=(.trim [[],[t,t],[f,f,f],[t,f,f],[f,t,f,f],[t,t,f,f],[f,t,t,t],[t,t,t,t]] (.ops [
  ⟨S [f,f,f,f,f],.bin .lss (.s [t,t,t,t]) (.s [f,t,t,t]),o⟩]))
def c62_o8 : CCode:=(.trim [[],[t,t],[f,f,f],[t,f,f],[f,t,f,f],[t,t,f,f],[f,t,t,t],[t,t,t,t]] (.ops [
  ⟨S [t,f,f,f,f],m (.s [t,t,t,t]),o⟩,
  ⟨S [f,t,f],m (.s [t,f,f,f,f]),o⟩]))
def c62_o9 : CCode:=(.trim [[],[t,t],[f,f,f],[t,f,f],[f,t,f],[f,t,f,f],[t,t,f,f],[f,t,t,t],[t,t,t,t]] (.ops [
  ⟨S [f,t,f,f,f],m (.s [f,f,f]),o⟩,
  ⟨S [t,t,f,f,f],.bin .eql (.s [f,t,f,f,f]) (.c (.int .i64 0)),o⟩]))
def c62_o10 : CCode:=(.trim [[],[t,t],[f,f,f],[t,f,f],[f,t,f],[f,t,f,f],[t,t,f,f],[f,t,t,t],[t,t,t,t]] (.ops [
  ⟨S [t,t,f],m (.c (.nils)),o⟩]))
def c62_o11 : CCode:=(.trim [[],[t,t],[f,f,f],[t,f,f],[f,t,f],[t,t,f],[f,t,f,f],[t,t,f,f],[f,t,t,t],[t,t,t,t]] (.ops [
  ⟨S [f,f,t,f,f],m (.s []),o⟩,
  ⟨S [t,f,t,f,f],.nilCheck (.s [f,f,t,f,f]),o⟩,
  ⟨S [f,t,t,f,f],.fieldAddr 2 (.s [t,f,t,f,f]),o⟩,
  ⟨S [t,t,t,f,f],.load o (.s [f,t,t,f,f]),o⟩,
  ⟨S [f,f,f,t,f],m (.s [f,t,f]),o⟩,
  ⟨S [t,f,f,t,f],.idxSl 1 (.s [t,t,t,f,f]) (.s [f,f,f,t,f]),o⟩,
  ⟨S [f,t,f,t,f],.load o (.s [t,f,f,t,f]),o⟩,
  ⟨S [t,t,f,t,f],.len 1 (.s [f,t,f,t,f]),o⟩,
  ⟨S [f,f,t,t,f],m (.c (.int .i64 0)),o⟩]))
def c62_o12 : CCode:=(.trim [[],[t,t],[f,f,f],[t,f,f],[f,t,f],[t,t,f],[f,t,f,f],[t,t,f,f],[f,t,t,t],[t,t,t,t],[f,t,f,t,f],[t,t,f,t,f],[f,f,t,t,f]] (.ops [
  ⟨S [t,f,t,t,f],.bin .lss (.s [f,f,t,t,f]) (.s [t,t,f,t,f]),o⟩]))
def c62_o13 : CCode:=(.trim [[],[t,t],[f,f,f],[t,f,f],[f,t,f],[t,t,f],[f,t,f,f],[t,t,f,f],[f,t,t,t],[t,t,t,t],[f,t,f,t,f],[t,t,f,t,f],[f,f,t,t,f]] (.ops [
  ⟨S [f,t,t,t,f],.idxSl 1 (.s [f,t,f,t,f]) (.s [f,f,t,t,f]),o⟩,
  ⟨S [t,t,t,t,f],.load o (.s [f,t,t,t,f]),o⟩,
  ⟨S [t,f,t],m (.s [t,t,t,t,f]),o⟩]))
def c62_o14 : CCode:=(.trim [[],[t,t],[f,f,f],[t,f,f],[f,t,f],[t,t,f],[t,f,t],[f,t,f,f],[t,t,f,f],[f,t,t,t],[t,t,t,t],[f,t,f,t,f],[t,t,f,t,f],[f,f,t,t,f]] (.ops [
  ⟨S [f,f,f,f,t],m (.s [t,t,f]),o⟩,
  ⟨S [t,f,f,f,t],m (.s [t,t]),o⟩,
  ⟨S [f,t,f,f,t],m (.s [f,f,f]),o⟩,
  ⟨S [t,t,f,f,t],.bin .sub (.s [f,t,f,f,t]) (.c (.int .i64 1)),o⟩,
  ⟨S [f,f,t,f,t],.idxSl 1 (.s [t,f,f,f,t]) (.s [t,t,f,f,t]),o⟩,
  ⟨S [t,f,t,f,t],.load o (.s [f,f,t,f,t]),o⟩,
  ⟨S [f,t,t,f,t],m (.s [t,f,t]),o⟩,
  ⟨S [t,t,t,f,t],.idxSl 1 (.s [t,f,t,f,t]) (.s [f,t,t,f,t]),o⟩,
  ⟨S [f,f,f,t,t],.load o (.s [t,t,t,f,t]),o⟩,
  ⟨S [t,f,f,t,t],.buildSlice o 1 1 [.int .i64 0] [(0,1,(.s [f,f,f,t,t]))],o⟩,
  ⟨S [f,t,f,t,t],.append o 1 8 (.s [f,f,f,f,t]) (.s [t,f,f,t,t]),o⟩,
  ⟨S [t,t,f],m (.s [f,t,f,t,t]),o⟩]))
def c62_o15 : CCode:=(.trim [[],[t,t],[f,f,f],[t,f,f],[f,t,f],[t,t,f],[f,t,f,f],[t,t,f,f],[f,t,t,t],[t,t,t,t],[f,t,f,t,f],[t,t,f,t,f],[f,f,t,t,f]] (.ops [
  ⟨S [t,t,f,t,t],.bin .add (.s [f,f,t,t,f]) (.c (.int .i64 1)),o⟩,
  ⟨S [f,f,t,t,f],m (.s [t,t,f,t,t]),o⟩]))
def c62_b0 : CCode:=((.seq c62_o12
 (.seq (.cond (.s [t,f,t,t,f]) .skip (.exit 4))
 (.seq (.block 5 (.seq c62_o13
 c62_o14))
 c62_o15))))
def c62_l0 : CCode:=(.loop [[],[t,t],[f,f,f],[t,f,f],[f,t,f],[t,t,f],[f,t,f,f],[t,t,f,f],[f,t,t,t],[t,t,t,t],[f,t,f,t,f],[t,t,f,t,f],[f,f,t,t,f]] c62_b0)
def c62_o16 : CCode:=(.trim [[],[t,t],[f,f,f],[t,f,f],[f,t,f],[t,t,f],[f,t,f,f],[t,t,f,f],[f,t,t,t],[t,t,t,t]] (.ops [
  ⟨S [t,f,t,t,t],m (.s [t,t,f]),o⟩,
  ⟨S [f,t,t,t,t],.call f (.c (.func 63 [])) [(.s [t,f,t,t,t]),(.c (.int .i64 1152921504606846976))],o⟩,
  ⟨S [f,f,t,t,t],m (.s [f,t,t,t,t]),o⟩,
  ⟨S [t,t,t,t,t],.extract 0 (.s [f,f,t,t,t]),o⟩,
  ⟨S [f,f,f,f,f,f],.extract 1 (.s [f,f,t,t,t]),o⟩,
  ⟨S [f,t,t],m (.s [t,t,t,t,t]),o⟩,
  ⟨S [t,t,t],m (.s [f,f,f,f,f,f]),o⟩]))
def c62_o17 : CCode:=(.trim [[],[t,t],[f,f,f],[t,f,f],[f,t,f],[f,t,t],[t,t,t],[f,t,f,f],[t,t,f,f],[f,t,t,t],[t,t,t,t]] (.ops [
  ⟨S [t,f,f,f,f,f],m (.s [t,t,t]),o⟩,
  ⟨S [f,t,f,f,f,f],.un .not (.s [t,f,f,f,f,f]),o⟩]))
def c62_o18 : CCode:=(.trim [] (.ops [
  ⟨S [t,f],m (.c (.nils)),o⟩,
  ⟨S [f,t],m (.c (.bool f)),o⟩]))
def c62_o19 : CCode:=(.trim [[],[t,t],[f,f,f],[t,f,f],[f,t,f],[f,t,t],[f,t,f,f],[t,t,f,f],[f,t,t,t],[t,t,t,t]] (.ops [
  ⟨S [t,t,f,f,f,f],m (.s [t,f,f]),o⟩,
  ⟨S [f,f,t,f,f,f],m (.s [f,t,f]),o⟩,
  ⟨S [t,f,t,f,f,f],m (.s [f,t,t]),o⟩,
  ⟨S [f,t,t,f,f,f],.idxSl 1 (.s [t,t,f,f,f,f]) (.s [f,f,t,f,f,f]),o⟩,
  ⟨o,.store 1 (.s [f,t,t,f,f,f]) (.s [t,f,t,f,f,f]),o⟩]))
def c62_o20 : CCode:=(.trim [[],[t,t],[f,f,f],[t,f,f],[f,t,f,f],[t,t,f,f],[f,t,t,t],[t,t,t,t]] (.ops [
  ⟨S [t,t,t,f,f,f],.bin .add (.s [t,t,t,t]) (.c (.int .i64 1)),o⟩,
  ⟨S [t,t,t,t],m (.s [t,t,t,f,f,f]),o⟩]))
def c62_b1 : CCode:=((.seq c62_o7
 (.seq (.cond (.s [f,f,f,f,f]) .skip (.exit 2))
 (.seq (.block 3 (.seq c62_o8
 (.seq (.seq c62_o9
 (.cond (.s [t,t,f,f,f]) (.exit 2) .skip))
 (.seq c62_o10
 (.seq (.seq c62_o11
 (.block 4 c62_l0))
 (.seq c62_o16
 (.seq (.seq c62_o17
 (.cond (.s [f,t,f,f,f,f]) (.seq c62_o18
 .ret) .skip))
 c62_o19)))))))
 c62_o20))))
def c62_l1 : CCode:=(.loop [[],[t,t],[f,f,f],[t,f,f],[f,t,f,f],[t,t,f,f],[f,t,t,t],[t,t,t,t]] c62_b1)
def c62_o21 : CCode:=(.trim [[],[t,t],[t,f,f],[f,t,f,f],[t,t,f,f]] (.ops [
  ⟨S [t,f,f,t,f,f],m (.s [t,f,f]),o⟩,
  ⟨S [f,t,f,t,f,f],.call f (.c (.func 63 [])) [(.s [t,f,f,t,f,f]),(.c (.int .i64 1152921504606846976))],o⟩,
  ⟨S [f,f,f,t,f,f],m (.s [f,t,f,t,f,f]),o⟩,
  ⟨S [t,t,f,t,f,f],.extract 0 (.s [f,f,f,t,f,f]),o⟩,
  ⟨S [f,f,t,t,f,f],.extract 1 (.s [f,f,f,t,f,f]),o⟩,
  ⟨S [f,f,f,f],m (.s [t,t,f,t,f,f]),o⟩,
  ⟨S [t,f,f,f],m (.s [f,f,t,t,f,f]),o⟩]))
def c62_o22 : CCode:=(.trim [[],[t,t],[t,f,f],[t,f,f,f],[f,t,f,f],[t,t,f,f]] (.ops [
  ⟨S [t,f,t,t,f,f],m (.s [t,f,f,f]),o⟩,
  ⟨S [f,t,t,t,f,f],.un .not (.s [t,f,t,t,f,f]),o⟩]))
def c62_o23 : CCode:=(.trim [] (.ops [
  ⟨S [t,f],m (.c (.nils)),o⟩,
  ⟨S [f,t],m (.c (.bool f)),o⟩]))
def c62_o24 : CCode:=(.trim [[],[t,t],[t,f,f],[f,t,f,f],[t,t,f,f]] (.ops [
  ⟨S [t,t,t,t,f,f],m (.s [t,t]),o⟩,
  ⟨S [f,f,f,f,t,f],m (.s [t,f,f]),o⟩,
  ⟨S [t,f,f,f,t,f],.buildSlice o 1 1 [.nils] [(0,1,(.s [f,f,f,f,t,f]))],o⟩,
  ⟨S [f,t,f,f,t,f],.append o 1 24 (.s [t,t,t,t,f,f]) (.s [t,f,f,f,t,f]),o⟩,
  ⟨S [t,t],m (.s [f,t,f,f,t,f]),o⟩]))
def c62_o25 : CCode:=(.trim [[],[t,t],[f,t,f,f],[t,t,f,f]] (.ops [
  ⟨S [t,t,f,f,t,f],.bin .add (.s [t,t,f,f]) (.c (.int .i64 1)),o⟩,
  ⟨S [t,t,f,f],m (.s [t,t,f,f,t,f]),o⟩]))
def c62_b2 : CCode:=((.seq c62_o3
 (.seq (.cond (.s [f,f,t,f]) .skip (.exit 0))
 (.seq (.block 1 (.seq c62_o4
 (.seq c62_o5
 (.seq (.seq c62_o6
 (.block 2 c62_l1))
 (.seq (.seq c62_o21
 (.seq c62_o22
 (.cond (.s [f,t,t,t,f,f]) (.seq c62_o23
 .ret) .skip)))
 c62_o24)))))
 c62_o25))))
def c62_l2 : CCode:=(.loop [[],[t,t],[f,t,f,f],[t,t,f,f]] c62_b2)
def c62_o26 : CCode:=(.trim [[t,t]] (.ops [
  ⟨S [f,f,t,f,t,f],m (.s [t,t]),o⟩,
  ⟨S [t,f],m (.s [f,f,t,f,t,f]),o⟩,
  ⟨S [f,t],m (.c (.bool t)),o⟩]))
def c62 : CFunc:=({ params:=[[],[f]],results:=[.slot [t,f],.slot [f,t]],shared:=f,body:=(.seq c62_o0
 (.seq c62_o1
 (.seq (.seq c62_o2
 (.block 0 c62_l2))
 (.seq c62_o26
 .ret)))) })
def c63_o0 : CCode:=(.trim [[],[f]] (.ops [
  ⟨S [t,f],m (.c (.int .i64 0)),o⟩,
  ⟨S [f,t],m (.c (.bool f)),o⟩]))
def c63_o1 : CCode:=(.trim [[],[f]] (.ops [
  ⟨S [t,t],m (.c (.int .i64 0)),o⟩]))
def c63_o2 : CCode:=(.trim [[],[f],[t,t]] (.ops [
  ⟨S [f,t,f],m (.s []),o⟩,
  ⟨S [t,t,f],.len 1 (.s [f,t,f]),o⟩,
  ⟨S [f,f,t],m (.c (.int .i64 0)),o⟩]))
def c63_o3 : CCode:=(.trim [[f],[t,t],[f,t,f],[t,t,f],[f,f,t]] (.ops [
  ⟨S [t,f,t],.bin .lss (.s [f,f,t]) (.s [t,t,f]),o⟩]))
def c63_o4 : CCode:=(.trim [[f],[t,t],[f,t,f],[t,t,f],[f,f,t]] (.ops [
  ⟨S [f,t,t],.idxSl 1 (.s [f,t,f]) (.s [f,f,t]),o⟩,
  ⟨S [t,t,t],.load o (.s [f,t,t]),o⟩,
  ⟨S [t,f,f],m (.s [t,t,t]),o⟩]))
def c63_o5 : CCode:=(.trim [[f],[t,t],[t,f,f],[f,t,f],[t,t,f],[f,f,t]] (.ops [
  ⟨S [f,f,f,f],m (.s [t,f,f]),o⟩,
  ⟨S [t,f,f,f],m (.s [f]),o⟩,
  ⟨S [f,t,f,f],m (.s [t,t]),o⟩,
  ⟨S [t,t,f,f],.bin .sub (.s [t,f,f,f]) (.s [f,t,f,f]),o⟩,
  ⟨S [f,f,t,f],.bin .gtr (.s [f,f,f,f]) (.s [t,t,f,f]),o⟩]))
def c63_o6 : CCode:=(.trim [] (.ops [
  ⟨S [t,f],m (.c (.int .i64 0)),o⟩,
  ⟨S [f,t],m (.c (.bool f)),o⟩]))
def c63_o7 : CCode:=(.trim [[f],[t,t],[t,f,f],[f,t,f],[t,t,f],[f,f,t]] (.ops [
  ⟨S [t,f,t,f],m (.s [t,t]),o⟩,
  ⟨S [f,t,t,f],m (.s [t,f,f]),o⟩,
  ⟨S [t,t,t,f],.bin .add (.s [t,f,t,f]) (.s [f,t,t,f]),o⟩,
  ⟨S [t,t],m (.s [t,t,t,f]),o⟩]))
def c63_o8 : CCode:=(.trim [[f],[t,t],[f,t,f],[t,t,f],[f,f,t]] (.ops [
  ⟨S [f,f,f,t],.bin .add (.s [f,f,t]) (.c (.int .i64 1)),o⟩,
  ⟨S [f,f,t],m (.s [f,f,f,t]),o⟩]))
def c63_b0 : CCode:=((.seq c63_o3
 (.seq (.cond (.s [t,f,t]) .skip (.exit 0))
 (.seq (.block 1 (.seq c63_o4
 (.seq (.seq c63_o5
 (.cond (.s [f,f,t,f]) (.seq c63_o6
 .ret) .skip))
 c63_o7)))
 c63_o8))))
def c63_l0 : CCode:=(.loop [[f],[t,t],[f,t,f],[t,t,f],[f,f,t]] c63_b0)
def c63_o9 : CCode:=(.trim [[t,t]] (.ops [
  ⟨S [t,f,f,t],m (.s [t,t]),o⟩,
  ⟨S [t,f],m (.s [t,f,f,t]),o⟩,
  ⟨S [f,t],m (.c (.bool t)),o⟩]))
def c63 : CFunc:=({ params:=[[],[f]],results:=[.slot [t,f],.slot [f,t]],shared:=f,body:=(.seq c63_o0
 (.seq c63_o1
 (.seq (.seq c63_o2
 (.block 0 c63_l0))
 (.seq c63_o9
 .ret)))) })
def c64_o0 : CCode:=(.trim [[],[f]] (.ops [
  ⟨S [t,f],m (.c (.bool f)),o⟩]))
def c64_o1 : CCode:=(.trim [[],[f]] (.ops [
  ⟨S [t,t],m (.s []),o⟩,
  ⟨S [f,f,f],.len 1 (.s [t,t]),o⟩,
  ⟨S [t,f,f],m (.s [f]),o⟩,
  ⟨S [f,t,f],.len 1 (.s [t,f,f]),o⟩,
  ⟨S [t,t,f],.bin .neq (.s [f,f,f]) (.s [f,t,f]),o⟩]))
def c64_o2 : CCode:=(.trim [] (.ops [
  ⟨S [t,f],m (.c (.bool f)),o⟩]))
def c64_o3 : CCode:=(.trim [[],[f]] (.ops [
  ⟨S [f,t],m (.c (.int .i64 0)),o⟩]))
def c64_o4 : CCode:=(.trim [[],[f],[f,t]] (.ops [
  ⟨S [f,f,t],m (.s [f,t]),o⟩,
  ⟨S [t,f,t],m (.s []),o⟩,
  ⟨S [f,t,t],.len 1 (.s [t,f,t]),o⟩,
  ⟨S [t,t,t],.bin .lss (.s [f,f,t]) (.s [f,t,t]),o⟩]))
def c64_o5 : CCode:=(.trim [[],[f],[f,t]] (.draw 0 [
  ⟨S [f,t,f,f],m (.s []),o⟩,
  ⟨S [t,t,f,f],m (.s [f,t]),o⟩,
  ⟨S [f,f,t,f],.idxSl 1 (.s [f,t,f,f]) (.s [t,t,f,f]),o⟩,
  ⟨S [t,f,t,f],.load o (.s [f,f,t,f]),o⟩,
  ⟨S [f,t,t,f],m (.s [f]),o⟩,
  ⟨S [t,t,t,f],m (.s [f,t]),o⟩,
  ⟨S [f,f,f,t],.idxSl 1 (.s [f,t,t,f]) (.s [t,t,t,f]),o⟩,
  ⟨S [t,f,f,t],.load o (.s [f,f,f,t]),o⟩,
  ⟨S [f,t,f,t],.bin .neq (.s [t,f,t,f]) (.s [t,f,f,t]),o⟩]
  [(3,7)] [[],[],[0,1],[0,1,2],[],[],[4,5],[4,5,6],(r 8)]))
def c64_o6 : CCode:=(.trim [] (.ops [
  ⟨S [t,f],m (.c (.bool f)),o⟩]))
def c64_o7 : CCode:=(.trim [[],[f],[f,t]] (.ops [
  ⟨S [f,f,f,f],m (.s [f,t]),o⟩,
  ⟨S [t,f,f,f],.bin .add (.s [f,f,f,f]) (.c (.int .i64 1)),o⟩,
  ⟨S [f,t],m (.s [t,f,f,f]),o⟩]))
def c64_b0 : CCode:=((.seq (.seq c64_o4
 (.cond (.s [t,t,t]) .skip (.exit 0)))
 (.seq (.block 1 (.seq c64_o5
 (.cond (.s [f,t,f,t]) (.seq c64_o6
 .ret) .skip)))
 c64_o7)))
def c64_l0 : CCode:=(.loop [[],[f],[f,t]] c64_b0)
def c64_o8 : CCode:=(.trim [] (.ops [
  ⟨S [t,f],m (.c (.bool t)),o⟩]))
def c64 : CFunc:=({ params:=[[],[f]],results:=[.slot [t,f]],shared:=f,body:=(.seq c64_o0
 (.seq (.seq c64_o1
 (.cond (.s [t,t,f]) (.seq c64_o2
 .ret) .skip))
 (.seq (.seq c64_o3
 (.block 0 c64_l0))
 (.seq c64_o8
 .ret)))) })
def c65_o0 : CCode:=.trim [] (.ops [
  ⟨S [],.alloc o [.int .i64 0,.nils,.nils],o⟩])
def c65_o1 : CCode:=(.trim [[]] (.ops [
  ⟨S [f],.buildSlice o 1 2 [.int .i64 0,.int .i64 0] [(0,1,(.c (.int .i64 1))),(1,1,(.c (.int .i64 1)))],o⟩,
  ⟨S [t],.buildSlice o 1 2 [.int .i64 0,.int .i64 0] [(0,1,(.c (.int .i64 1))),(1,1,(.c (.int .i64 0)))],o⟩,
  ⟨S [f,f],.buildSlice o 1 2 [.nils,.nils] [(0,1,(.s [f])),(1,1,(.s [t]))],o⟩,
  ⟨S [t,f],.buildSlice o 1 2 [.int .i64 0,.int .i64 0] [(0,1,(.c (.int .i64 1))),(1,1,(.c (.int .i64 1)))],o⟩,
  ⟨S [f,t],.buildSlice o 1 2 [.int .i64 0,.int .i64 0] [(0,1,(.c (.int .i64 1))),(1,1,(.c (.int .i64 0)))],o⟩,
  ⟨S [t,t],.buildSlice o 1 2 [.nils,.nils] [(0,1,(.s [t,f])),(1,1,(.s [f,t]))],o⟩,
  ⟨S [f,f,f],.build [.int .i64 0,.nils,.nils] [(0,1,(.c (.int .i64 2))),(1,1,(.s [f,f])),(2,1,(.s [t,t]))],o⟩,
  ⟨o,.store 3 (.s []) (.s [f,f,f]),o⟩]))
def c65 : CFunc:=({ params:=[],results:=[.cell [] (S 3)],shared:=f,body:=(.seq c65_o0
 (.seq c65_o1
 .ret)) })
def c70_o0 : CCode:=(.trim [[],[f]] (.ops [
  ⟨S [t,f],m (.c (.bool f)),o⟩]))
def c70_o1 : CCode:=(.trim [[],[f]] (.ops [
  ⟨S [f,t],m (.s []),o⟩,
  ⟨S [t,t],m (.s [f]),o⟩,
  ⟨S [f,f,f],.call f (.c (.func 93 [])) [(.s [f,t]),(.s [t,t])],o⟩,
  ⟨S [t,f,f],.bin .geq (.s [f,f,f]) (.c (.int .i64 0)),o⟩,
  ⟨S [t,f],m (.s [t,f,f]),o⟩]))
def c70 : CFunc:=({ params:=[[],[f]],results:=[.slot [t,f]],shared:=f,body:=(.seq c70_o0
 (.seq c70_o1
 .ret)) })
def c73_o0 : CCode:=(.trim [[],[f],[t],[f,f]] (.ops [
  ⟨S [f,t],m (.c (.int .i64 0)),o⟩]))
def c73_o1 : CCode:=(.trim [[],[f],[t],[f,f]] (.ops [
  ⟨S [f,t,t],.load o (.s [f]),o⟩,
  ⟨S [t,t,t],m (.s []),o⟩,
  ⟨S [f,f,f,f],.lookup (.i .i64) (.int .i64 0) t (.s [f,t,t]) (.s [t,t,t]),o⟩,
  ⟨S [t,f,t],m (.s [f,f,f,f]),o⟩,
  ⟨S [t,f,f,f],.extract 0 (.s [t,f,t]),o⟩,
  ⟨S [f,t,f,f],.extract 1 (.s [t,f,t]),o⟩,
  ⟨S [t,t],m (.s [t,f,f,f]),o⟩,
  ⟨S [f,f,f],m (.s [f,t,f,f]),o⟩]))
def c73_o2 : CCode:=(.trim [[],[f],[t],[f,f],[t,t],[f,f,f]] (.ops [
  ⟨S [f,f,t,f],m (.s [f,f,f]),o⟩,
  ⟨S [t,f,t,f],m (.s [f,f,t,f]),o⟩,
  ⟨S [f,t,t,f],m (.s [t,t]),S ([t,f,t,f],t)⟩,
  ⟨S [t,t,t,f],.bin .eql (.s [f,t,t,f]) (.c (.int .i64 0)),S ([t,f,t,f],t)⟩,
  ⟨S [f,f,f,t],.pick (.s [t,f,t,f]) (.s [t,t,t,f]) (.c (.bool f)),o⟩,
  ⟨S [t,t,f,f],m (.s [f,f,f,t]),o⟩]))
def c73_o3 : CCode:=(.trim [] (.ops [
  ⟨S [f,t],m (.c (.int .i64 (-1))),o⟩]))
def c73_o4 : CCode:=(.trim [[],[f],[t],[f,f],[t,t],[f,f,f]] (.ops [
  ⟨S [f,t,f,t],m (.s [f,f,f]),o⟩,
  ⟨S [t,f,f,t],m (.s [f,t,f,t]),o⟩]))
def c73_o5 : CCode:=(.trim [[t,t]] (.ops [
  ⟨S [t,t,f,t],m (.s [t,t]),o⟩,
  ⟨S [f,t],m (.s [t,t,f,t]),o⟩]))
def c73_o6 : CCode:=(.trim [[],[f],[t],[f,f]] (.ops [
  ⟨S [f,f,t,t],.load o (.s [f]),o⟩,
  ⟨S [t,f,t,t],m (.s []),o⟩,
  ⟨o,.mapUpdate (.i .i64) (.s [f,f,t,t]) (.s [t,f,t,t]) (.c (.int .i64 0)),o⟩]))
def c73_o7 : CCode:=(.trim [[],[f],[t],[f,f]] (.ops [
  ⟨S [t,f,f],m (.c (.int .i64 0)),o⟩]))
def c73_o8 : CCode:=(.trim [[],[f],[t],[f,f],[t,f,f]] (.ops [
  ⟨S [f,t,t,t],.load o (.s [t]),o⟩,
  ⟨S [t,t,t,t],.nilCheck (.s [f,t,t,t]),o⟩,
  ⟨S [f,f,f,f,f],.fieldAddr 2 (.s [t,t,t,t]),o⟩,
  ⟨S [t,f,f,f,f],.load o (.s [f,f,f,f,f]),o⟩,
  ⟨S [f,t,f,f,f],m (.s []),o⟩,
  ⟨S [t,t,f,f,f],.idxSl 1 (.s [t,f,f,f,f]) (.s [f,t,f,f,f]),o⟩,
  ⟨S [f,f,t,f,f],.load o (.s [t,t,f,f,f]),o⟩,
  ⟨S [t,f,t,f,f],.len 1 (.s [f,f,t,f,f]),o⟩,
  ⟨S [f,t,t,f,f],m (.c (.int .i64 0)),o⟩]))
def c73_o9 : CCode:=(.trim [[],[f],[f,f],[t,f,f],[f,f,t,f,f],[t,f,t,f,f],[f,t,t,f,f]] (.ops [
  ⟨S [t,t,t,f,f],.bin .lss (.s [f,t,t,f,f]) (.s [t,f,t,f,f]),o⟩]))
def c73_o10 : CCode:=(.trim [[],[f],[f,f],[t,f,f],[f,f,t,f,f],[t,f,t,f,f],[f,t,t,f,f]] (.ops [
  ⟨S [f,f,f,t,f],.idxSl 1 (.s [f,f,t,f,f]) (.s [f,t,t,f,f]),o⟩,
  ⟨S [t,f,f,t,f],.load o (.s [f,f,f,t,f]),o⟩,
  ⟨S [t,t,f],m (.s [t,f,f,t,f]),o⟩]))
def c73_o11 : CCode:=(.trim [[],[f],[f,f],[t,f,f],[t,t,f],[f,f,t,f,f],[t,f,t,f,f],[f,t,t,f,f]] (.ops [
  ⟨S [f,t,f,t,f],.load o (.s [f,f]),o⟩,
  ⟨S [t,t,f,t,f],m (.s [t,t,f]),o⟩,
  ⟨S [f,f,t,t,f],.call f (.s [f,t,f,t,f]) [(.s [t,t,f,t,f])],o⟩,
  ⟨S [f,f,t],m (.s [f,f,t,t,f]),o⟩]))
def c73_o12 : CCode:=(.trim [[],[f],[f,f],[t,f,f],[f,f,t],[f,f,t,f,f],[t,f,t,f,f],[f,t,t,f,f]] (.ops [
  ⟨S [t,f,t,t,f],m (.s [f,f,t]),o⟩,
  ⟨S [f,t,t,t,f],.bin .lss (.s [t,f,t,t,f]) (.c (.int .i64 0)),o⟩]))
def c73_o13 : CCode:=(.trim [] (.ops [
  ⟨S [f,t],m (.c (.int .i64 (-1))),o⟩]))
def c73_o14 : CCode:=(.trim [[],[f],[f,f],[t,f,f],[f,f,t],[f,f,t,f,f],[t,f,t,f,f],[f,t,t,f,f]] (.ops [
  ⟨S [t,t,t,t,f],m (.s [t,f,f]),o⟩,
  ⟨S [f,f,f,f,t],m (.s [f,f,t]),o⟩,
  ⟨S [t,f,f,f,t],.minmax t (.s [t,t,t,t,f]) (.s [f,f,f,f,t]),o⟩,
  ⟨S [t,f,f],m (.s [t,f,f,f,t]),o⟩]))
def c73_o15 : CCode:=(.trim [[],[f],[f,f],[t,f,f],[f,f,t,f,f],[t,f,t,f,f],[f,t,t,f,f]] (.ops [
  ⟨S [f,t,f,f,t],.bin .add (.s [f,t,t,f,f]) (.c (.int .i64 1)),o⟩,
  ⟨S [f,t,t,f,f],m (.s [f,t,f,f,t]),o⟩]))
def c73_b0 : CCode:=((.seq c73_o9
 (.seq (.cond (.s [t,t,t,f,f]) .skip (.exit 1))
 (.seq (.block 2 (.seq c73_o10
 (.seq c73_o11
 (.seq (.seq c73_o12
 (.cond (.s [f,t,t,t,f]) (.seq c73_o13
 .ret) .skip))
 c73_o14))))
 c73_o15))))
def c73_l0 : CCode:=(.loop [[],[f],[f,f],[t,f,f],[f,f,t,f,f],[t,f,t,f,f],[f,t,t,f,f]] c73_b0)
def c73_o16 : CCode:=(.trim [[],[f],[t,f,f]] (.ops [
  ⟨S [t,t,f,f,t],.load o (.s [f]),o⟩,
  ⟨S [f,f,t,f,t],m (.s []),o⟩,
  ⟨S [t,f,t,f,t],m (.s [t,f,f]),o⟩,
  ⟨S [f,t,t,f,t],.bin .add (.c (.int .i64 1)) (.s [t,f,t,f,t]),o⟩,
  ⟨o,.mapUpdate (.i .i64) (.s [t,t,f,f,t]) (.s [f,f,t,f,t]) (.s [f,t,t,f,t]),o⟩]))
def c73_o17 : CCode:=(.trim [[t,f,f]] (.ops [
  ⟨S [t,t,t,f,t],m (.s [t,f,f]),o⟩,
  ⟨S [f,f,f,t,t],.bin .add (.c (.int .i64 1)) (.s [t,t,t,f,t]),o⟩,
  ⟨S [f,t],m (.s [f,f,f,t,t]),o⟩]))
def c73 : CFunc:=({ params:=[[],[f],[t],[f,f]],results:=[.slot [f,t]],shared:=t,body:=(.seq c73_o0
 (.seq c73_o1
 (.seq (.block 0 (.seq c73_o2
 (.cond (.s [t,t,f,f]) (.seq c73_o3
 .ret) (.seq c73_o4
 (.cond (.s [t,f,f,t]) (.seq c73_o5
 .ret) .skip)))))
 (.seq c73_o6
 (.seq c73_o7
 (.seq (.seq c73_o8
 (.block 1 c73_l0))
 (.seq c73_o16
 (.seq c73_o17
 .ret)))))))) })
def c77_o0 : CCode:=(.trim [[],[f]] (.ops [
  ⟨S [t],.box o (.s []),o⟩,
  ⟨S [f,f],.box o (.s [f]),o⟩,
  ⟨S [t,f],m (.c (.bool f)),o⟩]))
def c77_o1 : CCode:=(.trim [[t],[f,f]] (.ops [
  ⟨S [f,t],.load o (.s [f,f]),o⟩,
  ⟨S [t,t],.len 1 (.s [f,t]),o⟩,
  ⟨S [f,f,f],.call f (.c (.func 60 [])) [(.s [t,t]),(.c (.int .i64 1)),(.c (.int .i64 40))],o⟩,
  ⟨S [t,f,f],.un .not (.s [f,f,f]),o⟩,
  ⟨S [f,t,f],m (.s [t,f,f]),o⟩,
  ⟨S [t,t,f],.load o (.s [f,f]),S ([f,t,f],f)⟩,
  ⟨S [f,f,t],.idxSl 1 (.s [t,t,f]) (.c (.int .i64 0)),S ([f,t,f],f)⟩,
  ⟨S [t,f,t],.load o (.s [f,f,t]),S ([f,t,f],f)⟩,
  ⟨S [f,t,t],.len 0 (.s [t,f,t]),S ([f,t,f],f)⟩,
  ⟨S [t,t,t],.call f (.c (.func 60 [])) [(.s [f,t,t]),(.c (.int .i64 1)),(.c (.int .i64 5))],S ([f,t,f],f)⟩,
  ⟨S [f,f,f,f],.un .not (.s [t,t,t]),S ([f,t,f],f)⟩,
  ⟨S [t,f,f,f],.pick (.s [f,t,f]) (.c (.bool t)) (.s [f,f,f,f]),o⟩]))
def c77_o2 : CCode:=(.trim [] (.ops [
  ⟨S [t,f],m (.c (.bool f)),o⟩]))
def c77_o3 : CCode:=(.trim [[t],[f,f]] (.ops [
  ⟨S [f,t,f,f],.load o (.s [f,f]),o⟩,
  ⟨S [t,t,f,f],.makeFunc 96 [(.s [f,f]),(.s [t])],o⟩,
  ⟨S [f,f,t,f],.call f (.c (.func 95 [])) [(.s [f,t,f,f]),(.s [t,t,f,f])],o⟩,
  ⟨S [t,f,t,f],.un .not (.s [f,f,t,f]),o⟩,
  ⟨S [t,f],m (.s [t,f,t,f]),o⟩]))
def c77 : CFunc:=({ params:=[[],[f]],results:=[.slot [t,f]],shared:=f,body:=(.seq c77_o0
 (.seq (.seq c77_o1
 (.cond (.s [t,f,f,f]) (.seq c77_o2
 .ret) .skip))
 (.seq c77_o3
 .ret))) })
def c78_o0 : CCode:=(.trim [[],[f]] (.ops [
  ⟨S [t],.box o (.s []),o⟩,
  ⟨S [t,f],m (.c (.bool f)),o⟩]))
def c78_o1 : CCode:=(.trim [[f],[t]] (.ops [
  ⟨S [f,f,f],m (.s [f]),o⟩,
  ⟨S [t,f,f],.len 1 (.s [f,f,f]),o⟩,
  ⟨S [f,t,f],m (.c (.int .i64 0)),o⟩]))
def c78_o2 : CCode:=(.trim [[f],[t],[f,f,f],[t,f,f],[f,t,f]] (.ops [
  ⟨S [t,t,f],.bin .lss (.s [f,t,f]) (.s [t,f,f]),o⟩]))
def c78_o3 : CCode:=(.trim [[f],[t],[f,f,f],[t,f,f],[f,t,f]] (.ops [
  ⟨S [f,f,t],m (.s [f,t,f]),o⟩,
  ⟨S [t,f,t],.idxSl 1 (.s [f,f,f]) (.s [f,t,f]),o⟩,
  ⟨S [f,t,t],.load o (.s [t,f,t]),o⟩,
  ⟨S [f,t],m (.s [f,f,t]),o⟩,
  ⟨S [t,t],m (.s [f,t,t]),o⟩]))
def c78_o4 : CCode:=(.trim [[f],[t],[f,t],[t,t],[f,f,f],[t,f,f],[f,t,f]] (.draw 0 [
  ⟨S [t,t,t],.load (S 3) (.s [t]),o⟩,
  ⟨S [f,f,f,f],m (.s [t,t]),o⟩,
  ⟨S [t,f,f,f],.call f (.c (.func 89 [])) [(.s [t,t,t]),(.s [f,f,f,f])],o⟩,
  ⟨S [f,t,f,f],.un .not (.s [t,f,f,f]),o⟩,
  ⟨S [t,t,f,f],m (.s [f,t,f,f]),o⟩,
  ⟨S [f,f,t,f],m (.s [f,t]),S ([t,t,f,f],f)⟩,
  ⟨S [t,f,t,f],.bin .gtr (.s [f,f,t,f]) (.c (.int .i64 0)),S ([t,t,f,f],f)⟩,
  ⟨S [f,t,t,f],m (.s [t,f,t,f]),S ([t,t,f,f],f)⟩,
  ⟨S [t,t,t,f],.load (S 3) (.s [t]),S ([f,t,t,f],t)⟩,
  ⟨S [f,f,f,t],m (.s [f]),S ([f,t,t,f],t)⟩,
  ⟨S [t,f,f,t],m (.s [f,t]),S ([f,t,t,f],t)⟩,
  ⟨S [f,t,f,t],.bin .sub (.s [t,f,f,t]) (.c (.int .i64 1)),S ([f,t,t,f],t)⟩,
  ⟨S [t,t,f,t],.idxSl 1 (.s [f,f,f,t]) (.s [f,t,f,t]),S ([f,t,t,f],t)⟩,
  ⟨S [f,f,t,t],.load o (.s [t,t,f,t]),S ([f,t,t,f],t)⟩,
  ⟨S [t,f,t,t],m (.s [t,t]),S ([f,t,t,f],t)⟩,
  ⟨S [f,t,t,t],.call f (.c (.func 90 [])) [(.s [t,t,t,f]),(.s [f,f,t,t]),(.s [t,f,t,t])],S ([f,t,t,f],t)⟩,
  ⟨S [t,t,t,t],.un .not (.s [f,t,t,t]),S ([f,t,t,f],t)⟩,
  ⟨S [f,f,f,f,f],.pick (.s [f,t,t,f]) (.s [t,t,t,t]) (.c (.bool f)),S ([t,t,f,f],f)⟩,
  ⟨S [t,f,f,f,f],.pick (.s [t,t,f,f]) (.c (.bool t)) (.s [f,f,f,f,f]),o⟩]
  [(8,13)] [[],[],[0,1],[0,1,2],[0,1,2,3],(r 5),(r 6),(r 7),(r 8),(r 8),(r 8),(r 8 ++ [10]),(r 8 ++ [9,10,11]),(r 8 ++ [9,10,11,12]),(r 8),(r 15),(r 16),(r 17),(r 18)]))
def c78_o5 : CCode:=(.trim [] (.ops [
  ⟨S [t,f],m (.c (.bool f)),o⟩]))
def c78_o6 : CCode:=(.trim [[f],[t],[f,f,f],[t,f,f],[f,t,f]] (.ops [
  ⟨S [f,t,f,f,f],.bin .add (.s [f,t,f]) (.c (.int .i64 1)),o⟩,
  ⟨S [f,t,f],m (.s [f,t,f,f,f]),o⟩]))
def c78_b0 : CCode:=((.seq c78_o2
 (.seq (.cond (.s [t,t,f]) .skip (.exit 0))
 (.seq (.block 1 (.seq c78_o3
 (.seq c78_o4
 (.cond (.s [t,f,f,f,f]) (.seq c78_o5
 .ret) .skip))))
 c78_o6))))
def c78_l0 : CCode:=(.loop [[f],[t],[f,f,f],[t,f,f],[f,t,f]] c78_b0)
def c78_o7 : CCode:=(.trim [] (.ops [
  ⟨S [t,f],m (.c (.bool t)),o⟩]))
def c78 : CFunc:=({ params:=[[],[f]],results:=[.slot [t,f]],shared:=f,body:=(.seq c78_o0
 (.seq (.seq c78_o1
 (.block 0 c78_l0))
 (.seq c78_o7
 .ret))) })
def c79_o0 : CCode:=(.trim [[],[f]] (.ops [
  ⟨S [t,f],m (.c (.nils)),o⟩]))
def c79_o1 : CCode:=(.trim [[],[f]] (.ops [
  ⟨S [f,t,f],m (.s [f]),o⟩,
  ⟨S [t,t,f],.bin .lss (.s [f,t,f]) (.c (.int .i64 0)),o⟩]))
def c79_o2 : CCode:=(.trim [[],[f]] (.ops [
  ⟨S [f,f,t],.iface 9 (.c (.str [99,97,110,110,111,116,32,98,101,32,110,101,103,97,116,105,118,101])),o⟩,
  ⟨o,.fail,o⟩]))
def c79_o3 : CCode:=(.trim [[],[f]] (.ops [
  ⟨S [f,t,t],m (.s []),o⟩,
  ⟨S [t,t,t],.len 1 (.s [f,t,t]),o⟩,
  ⟨S [f,f,f,f],.conv .u64 (.s [t,t,t]),o⟩,
  ⟨S [t,f,f,f],m (.s [f]),o⟩,
  ⟨S [f,t,f,f],.conv .u64 (.s [t,f,f,f]),o⟩,
  ⟨S [t,t,f,f],.call f (.c (.func 99 [])) [(.s [f,f,f,f]),(.s [f,t,f,f])],o⟩,
  ⟨S [t,f,t],m (.s [t,t,f,f]),o⟩,
  ⟨S [f,f,t,f],.extract 0 (.s [t,f,t]),o⟩,
  ⟨S [t,f,t,f],.extract 1 (.s [t,f,t]),o⟩,
  ⟨S [f,t],m (.s [f,f,t,f]),o⟩,
  ⟨S [t,t],m (.s [t,f,t,f]),o⟩]))
def c79_o4 : CCode:=(.trim [[],[f,t],[t,t]] (.ops [
  ⟨S [f,t,t,f],m (.s [f,t]),o⟩,
  ⟨S [t,t,t,f],.bin .gtr (.s [f,t,t,f]) (.c (.int .u64 0)),o⟩,
  ⟨S [f,f,f,t],m (.s [t,t,t,f]),o⟩,
  ⟨S [t,f,f,t],m (.s [t,t]),S ([f,f,f,t],f)⟩,
  ⟨S [f,t,f,t],.bin .gtr (.s [t,f,f,t]) (.c (.int .u64 9223372036854775807)),S ([f,f,f,t],f)⟩,
  ⟨S [t,t,f,t],.pick (.s [f,f,f,t]) (.c (.bool t)) (.s [f,t,f,t]),o⟩]))
def c79_o5 : CCode:=(.trim [[],[t,t]] (.ops [
  ⟨S [f,f,t,t],.iface 9 (.c (.str [116,104,101,32,114,101,115,117,108,116,32,111,102,32,40,108,101,110,40,120,41,32,42,32,99,111,117,110,116,41,32,111,118,101,114,102,108,111,119,115])),o⟩,
  ⟨o,.fail,o⟩]))
def c79_o6 : CCode:=(.trim [[],[t,t]] (.ops [
  ⟨S [t,f,t,t],m (.s [t,t]),o⟩,
  ⟨S [f,t,t,t],.conv .i64 (.s [t,f,t,t]),o⟩,
  ⟨S [t,t,t,t],.makeSlice o 1 1 [.bool f] (.s [f,t,t,t]),o⟩,
  ⟨S [f,f,f],m (.s [t,t,t,t]),o⟩]))
def c79_o7 : CCode:=(.trim [[],[f,f,f]] (.ops [
  ⟨S [f,f,f,f,f],m (.s [f,f,f]),o⟩,
  ⟨S [t,f,f,f,f],m (.s []),o⟩,
  ⟨S [f,t,f,f,f],.copy 1 (.s [f,f,f,f,f]) (.s [t,f,f,f,f]),o⟩,
  ⟨S [t,f,f],m (.s [f,t,f,f,f]),o⟩]))
def c79_o8 : CCode:=(.trim [[f,f,f],[t,f,f]] (.ops [
  ⟨S [t,t,f,f,f],m (.s [t,f,f]),o⟩,
  ⟨S [f,f,t,f,f],m (.s [f,f,f]),o⟩,
  ⟨S [t,f,t,f,f],.len 1 (.s [f,f,t,f,f]),o⟩,
  ⟨S [f,t,t,f,f],.bin .lss (.s [t,t,f,f,f]) (.s [t,f,t,f,f]),o⟩]))
def c79_o9 : CCode:=(.trim [[f,f,f],[t,f,f]] (.draw 0 [
  ⟨S [t,t,t,f,f],m (.s [t,f,f]),o⟩,
  ⟨S [f,f,f,t,f],m (.s [f,f,f]),o⟩,
  ⟨S [t,f,f,t,f],m (.s [t,f,f]),o⟩,
  ⟨S [f,t,f,t,f],.slSl 1 (.s [f,f,f,t,f]) (S (.s [t,f,f,t,f])) o,o⟩,
  ⟨S [t,t,f,t,f],m (.s [f,f,f]),o⟩,
  ⟨S [f,f,t,t,f],m (.s [t,f,f]),o⟩,
  ⟨S [t,f,t,t,f],.slSl 1 (.s [t,t,f,t,f]) o (S (.s [f,f,t,t,f])),o⟩,
  ⟨S [f,t,t,t,f],.copy 1 (.s [f,t,f,t,f]) (.s [t,f,t,t,f]),o⟩,
  ⟨S [t,t,t,t,f],.bin .add (.s [t,t,t,f,f]) (.s [f,t,t,t,f]),o⟩,
  ⟨S [t,f,f],m (.s [t,t,t,t,f]),o⟩]
  [(3,6)] [[],[],[],[1,2],[],[],[4,5],[1,2,3,4,5,6],(r 8),(r 9)]))
def c79_b0 : CCode:=((.seq (.seq c79_o8
 (.cond (.s [f,t,t,f,f]) .skip (.exit 0)))
 (.block 1 c79_o9)))
def c79_l0 : CCode:=(.loop [[f,f,f],[t,f,f]] c79_b0)
def c79_o10 : CCode:=(.trim [[f,f,f]] (.ops [
  ⟨S [f,f,f,f,t],m (.s [f,f,f]),o⟩,
  ⟨S [t,f],m (.s [f,f,f,f,t]),o⟩]))
def c79 : CFunc:=({ params:=[[],[f]],results:=[.slot [t,f]],shared:=f,body:=(.seq c79_o0
 (.seq (.seq c79_o1
 (.cond (.s [t,t,f]) c79_o2 .skip))
 (.seq c79_o3
 (.seq (.seq c79_o4
 (.cond (.s [t,t,f,t]) c79_o5 .skip))
 (.seq c79_o6
 (.seq c79_o7
 (.seq (.block 0 c79_l0)
 (.seq c79_o10
 .ret)))))))) })
def c80_o0 : CCode:=(.trim [[],[f]] (.ops [
  ⟨S [t,f],m (.c (.bool f)),o⟩]))
def c80_o1 : CCode:=(.trim [[],[f]] (.ops [
  ⟨S [f,t],m (.s []),o⟩,
  ⟨S [t,t],m (.s [f]),o⟩,
  ⟨S [f,f,f],.call f (.c (.func 100 [])) [(.s [f,t]),(.s [t,t])],o⟩,
  ⟨S [t,f,f],.bin .geq (.s [f,f,f]) (.c (.int .i64 0)),o⟩,
  ⟨S [t,f],m (.s [t,f,f]),o⟩]))
def c80 : CFunc:=({ params:=[[],[f]],results:=[.slot [t,f]],shared:=f,body:=(.seq c80_o0
 (.seq c80_o1
 .ret)) })
def c83_o0 : CCode:=(.trim [[],[f]] (.ops [
  ⟨S [t],.box o (.s []),o⟩,
  ⟨S [t,f],m (.c (.bool f)),o⟩]))
def c83_o1 : CCode:=(.trim [[f],[t]] (.ops [
  ⟨S [f,t,f],m (.s [f]),o⟩,
  ⟨S [t,t,f],.len 1 (.s [f,t,f]),o⟩,
  ⟨S [f,f,t],.call f (.c (.func 60 [])) [(.s [t,t,f]),(.c (.int .i64 1)),(.c (.int .i64 40))],o⟩,
  ⟨S [t,f,t],.un .not (.s [f,f,t]),o⟩,
  ⟨S [f,t,t],m (.s [t,f,t]),o⟩,
  ⟨S [t,t,t],m (.s [f]),S ([f,t,t],f)⟩,
  ⟨S [f,f,f,f],.idxSl 1 (.s [t,t,t]) (.c (.int .i64 0)),S ([f,t,t],f)⟩,
  ⟨S [t,f,f,f],.load o (.s [f,f,f,f]),S ([f,t,t],f)⟩,
  ⟨S [f,t,f,f],.len 1 (.s [t,f,f,f]),S ([f,t,t],f)⟩,
  ⟨S [t,t,f,f],.call f (.c (.func 60 [])) [(.s [f,t,f,f]),(.c (.int .i64 1)),(.c (.int .i64 5))],S ([f,t,t],f)⟩,
  ⟨S [f,f,t,f],.un .not (.s [t,t,f,f]),S ([f,t,t],f)⟩,
  ⟨S [t,f,t,f],.pick (.s [f,t,t]) (.c (.bool t)) (.s [f,f,t,f]),o⟩]))
def c83_o2 : CCode:=(.trim [] (.ops [
  ⟨S [t,f],m (.c (.bool f)),o⟩]))
def c83_o3 : CCode:=(.trim [[f],[t]] (.ops [
  ⟨S [f,t,t,f],m (.s [f]),o⟩,
  ⟨S [t,t,t,f],.len 1 (.s [f,t,t,f]),o⟩,
  ⟨S [f,f,f,t],m (.c (.int .i64 0)),o⟩]))
def c83_o4 : CCode:=(.trim [[f],[t],[f,t,t,f],[t,t,t,f],[f,f,f,t]] (.ops [
  ⟨S [t,f,f,t],.bin .lss (.s [f,f,f,t]) (.s [t,t,t,f]),o⟩]))
def c83_o5 : CCode:=(.trim [[f],[t],[f,t,t,f],[t,t,t,f],[f,f,f,t]] (.ops [
  ⟨S [f,t,f,t],.idxSl 1 (.s [f,t,t,f]) (.s [f,f,f,t]),o⟩,
  ⟨S [t,t,f,t],.load o (.s [f,t,f,t]),o⟩,
  ⟨S [t,t],m (.s [t,t,f,t]),o⟩]))
def c83_o6 : CCode:=(.trim [[f],[t],[t,t],[f,t,t,f],[t,t,t,f],[f,f,f,t]] (.ops [
  ⟨S [f,f,t,t],m (.s [t,t]),o⟩,
  ⟨S [t,f,t,t],.len 1 (.s [f,f,t,t]),o⟩,
  ⟨S [f,t,t,t],m (.s [f]),o⟩,
  ⟨S [t,t,t,t],.idxSl 1 (.s [f,t,t,t]) (.c (.int .i64 0)),o⟩,
  ⟨S [f,f,f,f,f],.load o (.s [t,t,t,t]),o⟩,
  ⟨S [t,f,f,f,f],.len 1 (.s [f,f,f,f,f]),o⟩,
  ⟨S [f,t,f,f,f],.bin .neq (.s [t,f,t,t]) (.s [t,f,f,f,f]),o⟩]))
def c83_o7 : CCode:=(.trim [] (.ops [
  ⟨S [t,f],m (.c (.bool f)),o⟩]))
def c83_o8 : CCode:=(.trim [[f],[t],[t,t],[f,t,t,f],[t,t,t,f],[f,f,f,t]] (.ops [
  ⟨S [t,t,f,f,f],m (.s [t,t]),o⟩,
  ⟨S [f,f,t,f,f],.len 1 (.s [t,t,f,f,f]),o⟩,
  ⟨S [t,f,t,f,f],m (.c (.int .i64 0)),o⟩]))
def c83_o9 : CCode:=(.trim [[f],[t],[f,t,t,f],[t,t,t,f],[f,f,f,t],[t,t,f,f,f],[f,f,t,f,f],[t,f,t,f,f]] (.ops [
  ⟨S [f,t,t,f,f],.bin .lss (.s [t,f,t,f,f]) (.s [f,f,t,f,f]),o⟩]))
def c83_o10 : CCode:=(.trim [[f],[t],[f,t,t,f],[t,t,t,f],[f,f,f,t],[t,t,f,f,f],[f,f,t,f,f],[t,f,t,f,f]] (.ops [
  ⟨S [t,t,t,f,f],.idxSl 1 (.s [t,t,f,f,f]) (.s [t,f,t,f,f]),o⟩,
  ⟨S [f,f,f,t,f],.load o (.s [t,t,t,f,f]),o⟩,
  ⟨S [t,f,f],m (.s [f,f,f,t,f]),o⟩]))
def c83_o11 : CCode:=(.trim [[f],[t],[t,f,f],[f,t,t,f],[t,t,t,f],[f,f,f,t],[t,t,f,f,f],[f,f,t,f,f],[t,f,t,f,f]] (.ops [
  ⟨S [t,f,f,t,f],m (.s [t,f,f]),o⟩,
  ⟨S [f,t,f,t,f],.len 1 (.s [t,f,f,t,f]),o⟩,
  ⟨S [t,t,f,t,f],.fieldAddr 0 (.s [t]),o⟩,
  ⟨S [f,f,t,t,f],.load o (.s [t,t,f,t,f]),o⟩,
  ⟨S [t,f,t,t,f],.bin .neq (.s [f,t,f,t,f]) (.s [f,f,t,t,f]),o⟩,
  ⟨S [f,t,t,t,f],m (.s [t,f,t,t,f]),o⟩,
  ⟨S [t,t,t,t,f],m (.s [t,f,f]),S ([f,t,t,t,f],f)⟩,
  ⟨S [f,f,f,f,t],.call f (.c (.func 80 [])) [(.s [t,t,t,t,f]),(.c (.func 101 []))],S ([f,t,t,t,f],f)⟩,
  ⟨S [t,f,f,f,t],.pick (.s [f,t,t,t,f]) (.c (.bool t)) (.s [f,f,f,f,t]),o⟩]))
def c83_o12 : CCode:=(.trim [] (.ops [
  ⟨S [t,f],m (.c (.bool f)),o⟩]))
def c83_o13 : CCode:=(.trim [[f],[t],[f,t,t,f],[t,t,t,f],[f,f,f,t],[t,t,f,f,f],[f,f,t,f,f],[t,f,t,f,f]] (.ops [
  ⟨S [f,t,f,f,t],.bin .add (.s [t,f,t,f,f]) (.c (.int .i64 1)),o⟩,
  ⟨S [t,f,t,f,f],m (.s [f,t,f,f,t]),o⟩]))
def c83_b0 : CCode:=((.seq c83_o9
 (.seq (.cond (.s [f,t,t,f,f]) .skip (.exit 2))
 (.seq (.block 3 (.seq c83_o10
 (.seq c83_o11
 (.cond (.s [t,f,f,f,t]) (.seq c83_o12
 .ret) .skip))))
 c83_o13))))
def c83_l0 : CCode:=(.loop [[f],[t],[f,t,t,f],[t,t,t,f],[f,f,f,t],[t,t,f,f,f],[f,f,t,f,f],[t,f,t,f,f]] c83_b0)
def c83_o14 : CCode:=(.trim [[f],[t],[f,t,t,f],[t,t,t,f],[f,f,f,t]] (.ops [
  ⟨S [t,t,f,f,t],.bin .add (.s [f,f,f,t]) (.c (.int .i64 1)),o⟩,
  ⟨S [f,f,f,t],m (.s [t,t,f,f,t]),o⟩]))
def c83_b1 : CCode:=((.seq c83_o4
 (.seq (.cond (.s [t,f,f,t]) .skip (.exit 0))
 (.seq (.block 1 (.seq c83_o5
 (.seq (.seq c83_o6
 (.cond (.s [f,t,f,f,f]) (.seq c83_o7
 .ret) .skip))
 (.seq c83_o8
 (.block 2 c83_l0)))))
 c83_o14))))
def c83_l1 : CCode:=(.loop [[f],[t],[f,t,t,f],[t,t,t,f],[f,f,f,t]] c83_b1)
def c83_o15 : CCode:=(.trim [] (.ops [
  ⟨S [t,f],m (.c (.bool t)),o⟩]))
def c83 : CFunc:=({ params:=[[],[f]],results:=[.slot [t,f]],shared:=f,body:=(.seq c83_o0
 (.seq (.seq c83_o1
 (.cond (.s [t,f,t,f]) (.seq c83_o2
 .ret) .skip))
 (.seq (.seq c83_o3
 (.block 0 c83_l1))
 (.seq c83_o15
 .ret)))) })
def c84_o0 : CCode:=(.trim [[],[f],[t],[f,f]] (.ops [
  ⟨S [t,f,f],m (.c (.int .i64 0)),o⟩,
  ⟨S [f,t,f],m (.c (.bool f)),o⟩]))
def c84_o1 : CCode:=(.trim [[],[f],[t],[f,f]] (.ops [
  ⟨S [t,f,f,f],m (.s [f,f]),o⟩,
  ⟨S [f,t,f,f],.bin .eql (.s [t,f,f,f]) (.c (.int .i64 0)),o⟩]))
def c84_o2 : CCode:=(.trim [] (.ops [
  ⟨S [t,f,f],m (.c (.int .i64 0)),o⟩,
  ⟨S [f,t,f],m (.c (.bool t)),o⟩]))
def c84_o3 : CCode:=(.trim [[],[f],[t],[f,f]] (.ops [
  ⟨S [t,t,f],m (.c (.int .i64 0)),o⟩,
  ⟨S [f,f,t],m (.c (.bool f)),o⟩]))
def c84_o4 : CCode:=(.trim [[],[f],[t],[f,f],[t,t,f],[f,f,t]] (.ops [
  ⟨S [t,t,f,f],m (.s []),o⟩,
  ⟨S [f,f,t,f],.nilCheck (.s [t,t,f,f]),o⟩,
  ⟨S [t,f,t,f],.fieldAddr 2 (.s [f,f,t,f]),o⟩,
  ⟨S [f,t,t,f],.load o (.s [t,f,t,f]),o⟩,
  ⟨S [t,t,t,f],m (.s [t]),o⟩,
  ⟨S [f,f,f,t],.idxSl 1 (.s [f,t,t,f]) (.s [t,t,t,f]),o⟩,
  ⟨S [t,f,f,t],.load o (.s [f,f,f,t]),o⟩,
  ⟨S [f,t,f,t],.len 1 (.s [t,f,f,t]),o⟩,
  ⟨S [t,t,f,t],m (.c (.int .i64 0)),o⟩]))
def c84_o5 : CCode:=(.trim [[f],[f,f],[t,t,f],[f,f,t],[t,f,f,t],[f,t,f,t],[t,t,f,t]] (.ops [
  ⟨S [f,f,t,t],.bin .lss (.s [t,t,f,t]) (.s [f,t,f,t]),o⟩]))
def c84_o6 : CCode:=(.trim [[f],[f,f],[t,t,f],[f,f,t],[t,f,f,t],[f,t,f,t],[t,t,f,t]] (.ops [
  ⟨S [t,f,t,t],.idxSl 1 (.s [t,f,f,t]) (.s [t,t,f,t]),o⟩,
  ⟨S [f,t,t,t],.load o (.s [t,f,t,t]),o⟩,
  ⟨S [f,t,t],m (.s [f,t,t,t]),o⟩]))
def c84_o7 : CCode:=(.trim [[f],[f,f],[t,t,f],[f,f,t],[f,t,t],[t,f,f,t],[f,t,f,t],[t,t,f,t]] (.ops [
  ⟨S [f,f,f,f,f],m (.s [f]),o⟩,
  ⟨S [t,f,f,f,f],m (.s [f,t,t]),o⟩,
  ⟨S [f,t,f,f,f],m (.s [f,f]),o⟩,
  ⟨S [t,t,f,f,f],.bin .sub (.s [f,t,f,f,f]) (.c (.int .i64 1)),o⟩,
  ⟨S [f,f,t,f,f],.build [.int .i64 0,.int .i64 0] [(0,1,(.s [t,f,f,f,f])),(1,1,(.s [t,t,f,f,f]))],o⟩,
  ⟨S [t,f,t,f,f],.lookupA [.i .i64,.i .i64] (.int .i64 0) t (.s [f,f,f,f,f]) (.s [f,f,t,f,f]),o⟩,
  ⟨S [t,t,t,t],m (.s [t,f,t,f,f]),o⟩,
  ⟨S [f,t,t,f,f],.extract 0 (.s [t,t,t,t]),o⟩,
  ⟨S [t,t,t,f,f],.extract 1 (.s [t,t,t,t]),o⟩,
  ⟨S [t,t,t],m (.s [f,t,t,f,f]),o⟩,
  ⟨S [f,f,f,f],m (.s [t,t,t,f,f]),o⟩]))
def c84_o8 : CCode:=(.trim [[f],[f,f],[t,t,f],[f,f,t],[t,t,t],[f,f,f,f],[t,f,f,t],[f,t,f,t],[t,t,f,t]] (.ops [
  ⟨S [f,f,f,t,f],m (.s [f,f,f,f]),o⟩,
  ⟨S [t,f,f,t,f],m (.s [f,f,f,t,f]),o⟩,
  ⟨S [f,t,f,t,f],m (.s [f,f,t]),S ([t,f,f,t,f],t)⟩,
  ⟨S [t,t,f,t,f],.un .not (.s [f,t,f,t,f]),S ([t,f,f,t,f],t)⟩,
  ⟨S [f,f,t,t,f],m (.s [t,t,f,t,f]),S ([t,f,f,t,f],t)⟩,
  ⟨S [t,f,t,t,f],m (.s [t,t,t]),S ([f,f,t,t,f],f)⟩,
  ⟨S [f,t,t,t,f],m (.s [t,t,f]),S ([f,f,t,t,f],f)⟩,
  ⟨S [t,t,t,t,f],.bin .gtr (.s [t,f,t,t,f]) (.s [f,t,t,t,f]),S ([f,f,t,t,f],f)⟩,
  ⟨S [f,f,f,f,t],.pick (.s [f,f,t,t,f]) (.c (.bool t)) (.s [t,t,t,t,f]),S ([t,f,f,t,f],t)⟩,
  ⟨S [t,f,f,f,t],.pick (.s [t,f,f,t,f]) (.s [f,f,f,f,t]) (.c (.bool f)),o⟩]))
def c84_o9 : CCode:=(.trim [[f],[f,f],[t,t,t],[t,f,f,t],[f,t,f,t],[t,t,f,t]] (.ops [
  ⟨S [f,t,f,f,t],m (.s [t,t,t]),o⟩,
  ⟨S [t,t,f],m (.s [f,t,f,f,t]),o⟩,
  ⟨S [f,f,t],m (.c (.bool t)),o⟩]))
def c84_o10 : CCode:=(.trim [[f],[f,f],[t,t,f],[f,f,t],[t,f,f,t],[f,t,f,t],[t,t,f,t]] (.ops [
  ⟨S [t,t,f,f,t],.bin .add (.s [t,t,f,t]) (.c (.int .i64 1)),o⟩,
  ⟨S [t,t,f,t],m (.s [t,t,f,f,t]),o⟩]))
def c84_b0 : CCode:=((.seq c84_o5
 (.seq (.cond (.s [f,f,t,t]) .skip (.exit 0))
 (.seq (.block 1 (.seq c84_o6
 (.seq c84_o7
 (.seq c84_o8
 (.cond (.s [t,f,f,f,t]) c84_o9 .skip)))))
 c84_o10))))
def c84_l0 : CCode:=(.loop [[f],[f,f],[t,t,f],[f,f,t],[t,f,f,t],[f,t,f,t],[t,t,f,t]] c84_b0)
def c84_o11 : CCode:=(.trim [[t,t,f],[f,f,t]] (.ops [
  ⟨S [f,f,t,f,t],m (.s [t,t,f]),o⟩,
  ⟨S [t,f,t,f,t],m (.s [f,f,t]),o⟩,
  ⟨S [t,f,f],m (.s [f,f,t,f,t]),o⟩,
  ⟨S [f,t,f],m (.s [t,f,t,f,t]),o⟩]))
def c84 : CFunc:=({ params:=[[],[f],[t],[f,f]],results:=[.slot [t,f,f],.slot [f,t,f]],shared:=f,body:=(.seq c84_o0
 (.seq (.seq c84_o1
 (.cond (.s [f,t,f,f]) (.seq c84_o2
 .ret) .skip))
 (.seq c84_o3
 (.seq (.seq c84_o4
 (.block 0 c84_l0))
 (.seq c84_o11
 .ret))))) })
end Go.Proofs.Ytljgfdamdcikgaa.Ev
