/-
  RollerBounds answers true at any matrix and list, as the evaluator runs it. No condition.
-/
import Derived.Test.YtjeemgaoonapgaaRTab
set_option linter.unusedVariables false
set_option linter.unusedSimpArgs false
namespace Go.Proofs.Ytjeemgaoonapgaa.Ev
open Go Go.AEv

attribute [local simp] evFunc initS evOps_c evTrim_c evSkip_c evExit_c evRet_c evSeq_c evCond_c evBlock_c evDraw_c runOps_n runOps_c exec_n exec_g pure1_c act AOpd.ev T.get T.set T.put evBin evUn forceT_eq forceV_eq forceL_eq evRess evRes one keep runFP_n runFP_c app_none AV.flats AV.flat

/-! ### What is known -/
structure KnR (J : CallF) : Prop where
  k17 : K17 J
  k18 : K18 J
  k19 : K19 J
  k19n : K19n J
  k20 : K20 J
  k20n : K20n J
  k21 : K21 J
  k22 : K22 J
  k23 : ∀ h, J 23 [] h = some (.bool true, [], false)
  k24 : K24 J
  k25 : K25 J
  k26 : K26 J
theorem knR21 : KnR R21 where
  k17 := fun h y M a => by
    simp (disch := decide) only [R21, R20, R19, R18, R17, R16, R15, R14, addI_ne, addX_ne]
    exact k17 h y M a
  k18 := fun h y M a => by
    simp (disch := decide) only [R21, R20, R19, R18, R17, R16, R15, R14, R13, addI_ne, addX_ne]
    exact k18 h y M a
  k19 := fun h y x M X a b c => by
    simp (disch := decide) only [R21, R20, R19, addI_ne, addX_ne]
    exact k19 h y x M X a b c
  k19n := fun h y x M X a b c d => by
    simp (disch := decide) only [R21, R20, R19, addI_ne, addX_ne]
    exact k19n h y x M X a b c d
  k20 := fun h y x M X a b c => by
    simp (disch := decide) only [R21, addI_ne, addX_ne]
    exact k20 h y x M X a b c
  k20n := fun h y x M X a b c d => by
    simp (disch := decide) only [R21, addI_ne, addX_ne]
    exact k20n h y x M X a b c d
  k21 := fun h y M a b => by
    simp (disch := decide) only [R21, R20, R19, R18, R17, R16, addI_ne, addX_ne]
    exact k21 h y M a b
  k22 := fun h x A N lo a b => by
    simp (disch := decide) only [R21, R20, R19, R18, R17, addI_ne, addX_ne]
    exact k22 h x A N lo a b
  k23 := fun h => by
    simp (disch := decide) only [R21, R20, R19, R18, R17, R16, R15, R14, R13, R12, R11, R10, R9, R8, R7, R6, R5, R4, addI_ne, addX_ne, addV_ne]
    exact k23 h
  k24 := fun h x y a b c d e => by
    simp (disch := decide) only [R21, R20, R19, R18, R17, R16, R15, R14, R13, addI_ne, addX_ne]
    exact k24 h x y a b c d e
  k25 := fun h y x M X a b c => by
    simp (disch := decide) only [R21, R20, addI_ne, addX_ne]
    exact k25 h y x M X a b c
  k26 := k26

/-! ### The law -/
theorem put_two (h : Heap) (a b : AV) (U V : AV) (zs : List AObj) : Eff.app (.put h.size 2 0 [U, V]) ((h.plus [.cells 0 2 [a, b]]).plus zs) = some ((h.plus [.cells 0 2 [U, V]]).plus zs) := by
  rw [plus_plus, plus_plus]; exact put_plus0 h 2 0 0 [a, b] [U, V] zs h.size rfl (by simp)
theorem put_two1 (h : Heap) (X : AObj) (a b : AV) (U V : AV) : Eff.app (.put (h.size + 1) 2 0 [U, V]) ((h.plus [X]).plus [.cells 0 2 [a, b]]) = some ((h.plus [X]).plus [.cells 0 2 [U, V]]) :=
  put_plus0 (h.plus [X]) 2 0 0 [a, b] [U, V] [] (h.size + 1) (by rw [plus_size]; rfl) (by simp)
section
variable {y v l : AV} {n b9 : Nat} {u1 v1 u2 v2 e f : Int}
theorem w3_1 (J : CallF) (h : Heap) {m x : AV} {own : List AObj} {X : List Int} (k17 : J 17 [m] (frameOf h) = some (y, own, false)) (k18 : K18 J) (hx : LR ((frameOf h).plus own) x X) :
    Tr tbl J (.seq c3_o0 c3_o1) (fun s h' => s = T.set (T.set .leaf [] m) [false] x ∧ h' = frameOf h) .normal (fun s h' => s.get [false, true] = y ∧ s.get [true, true] = cpV ((frameOf h).plus own).size X ∧ h' = ((frameOf h).plus own).plus (cpO X)) := by
  have k := k18 _ _ _ hx
  generalize frameOf h = H at *
  generalize cpV (H.plus own).size X = w at *
  generalize cpO X = own2 at *
  have t : Tr tbl J ((.seq c3_o0 c3_o1)) (fun s h' => s = T.set (T.set .leaf [] m) [false] x ∧ h' = H) .normal (fun s h' => s.get [false, true] = y ∧ s.get [true, true] = w ∧ h' = (H.plus own).plus own2) := Tr.region fun s h hp => by
    obtain ⟨rfl, rfl⟩ := hp
    simp (disch := first | omega | exact getEq rfl | exact getO0 | exact Nat.le_of_ble_eq_true rfl) [c3_o0, c3_o1, came_some, goI, List.getElem?_cons_zero, List.getElem?_cons_succ, kn, keep, app_growP, app_noneP, plus_N, plus_at0, put_plus0, upd_N, upd_size, putAt, AV.cells, fillA, loadA, takeA, mk, Eff.isAll, Eff.isNone, Eff.commutes, Eff.spares, okPair, apart, eqAgg, fits, LK.fits, allEq, aveq, eqk, mmA, beqT, wrapI, idxI, tdivI, tmodI, decT, decF, ibT, ibF, inT, inF, evScope_c, if_pos, if_neg, k17, k, app_if, app_if']
  exact t
theorem w3_2 (J : CallF) (H : Heap) {own : List AObj} (k : J 19 [y, v] H = some (.tup [l, G e], own, false)) :
    Tr tbl J c3_o2 (fun s h => s.get [false, true] = y ∧ s.get [true, true] = v ∧ h = H) .normal (fun s h => s.get [false, true] = y ∧ s.get [true, true] = v ∧ s.get [false, false, false] = l ∧ s.get [true, false, false] = G e ∧ h = H.plus own) := by
  have t : Tr tbl J (c3_o2) (fun s h => s.get [false, true] = y ∧ s.get [true, true] = v ∧ h = H) .normal (fun s h => s.get [false, true] = y ∧ s.get [true, true] = v ∧ s.get [false, false, false] = l ∧ s.get [true, false, false] = G e ∧ h = H.plus own) := Tr.region fun s h hp => by
    obtain ⟨g0, g1, rfl⟩ := hp
    simp (disch := first | omega | exact getEq rfl | exact getO0 | exact Nat.le_of_ble_eq_true rfl) [c3_o2, came_some, goI, List.getElem?_cons_zero, List.getElem?_cons_succ, kn, keep, app_growP, app_noneP, plus_N, plus_at0, put_plus0, upd_N, upd_size, putAt, AV.cells, fillA, loadA, takeA, mk, Eff.isAll, Eff.isNone, Eff.commutes, Eff.spares, okPair, apart, eqAgg, fits, LK.fits, allEq, aveq, eqk, mmA, beqT, wrapI, idxI, tdivI, tmodI, decT, decF, ibT, ibF, inT, inF, evScope_c, if_pos, if_neg, g0, g1, k, app_if, app_if']
  exact t
theorem w3_3 (J : CallF) (H : Heap) (k : J 20 [y, v] H = some (.tup [.agg [G u1, G v1], .agg [G u2, G v2], G f], [], false)) :
    Tr tbl J c3_o3 (fun s h => s.get [false, true] = y ∧ s.get [true, true] = v ∧ s.get [false, false, false] = l ∧ s.get [true, false, false] = G e ∧ h = H) .normal (fun s h => s.get [false, true] = y ∧ s.get [true, true] = v ∧ s.get [false, false, false] = l ∧ s.get [true, false, false] = G e ∧ s.get [false, true, false] = .ptr H.size 0 2 ∧ s.get [true, true, false] = .ptr (H.size + 1) 0 2 ∧ s.get [false, false, true] = G f ∧ h = (H.plus [.cells 0 2 [G u1, G v1]]).plus [.cells 0 2 [G u2, G v2]]) := by
  have hsz : ∀ X, (H.plus [X]).size = H.size + 1 := fun X => by rw [plus_size]; rfl
  have t : Tr tbl J (c3_o3) (fun s h => s.get [false, true] = y ∧ s.get [true, true] = v ∧ s.get [false, false, false] = l ∧ s.get [true, false, false] = G e ∧ h = H) .normal (fun s h => s.get [false, true] = y ∧ s.get [true, true] = v ∧ s.get [false, false, false] = l ∧ s.get [true, false, false] = G e ∧ s.get [false, true, false] = .ptr H.size 0 2 ∧ s.get [true, true, false] = .ptr (H.size + 1) 0 2 ∧ s.get [false, false, true] = G f ∧ h = (H.plus [.cells 0 2 [G u1, G v1]]).plus [.cells 0 2 [G u2, G v2]]) := Tr.region fun s h hp => by
    obtain ⟨g0, g1, g2, g3, rfl⟩ := hp
    simp (disch := first | omega | exact getEq rfl | exact getO0 | exact Nat.le_of_ble_eq_true rfl) [c3_o3, came_some, goI, List.getElem?_cons_zero, List.getElem?_cons_succ, kn, keep, app_growP, app_noneP, plus_N, plus_at0, put_plus0, upd_N, upd_size, putAt, AV.cells, fillA, loadA, takeA, mk, Eff.isAll, Eff.isNone, Eff.commutes, Eff.spares, okPair, apart, eqAgg, fits, LK.fits, allEq, aveq, eqk, mmA, beqT, wrapI, idxI, tdivI, tmodI, decT, decF, ibT, ibF, inT, inF, evScope_c, if_pos, if_neg, g0, g1, g2, g3, k, hsz, put_two, put_two1]
  exact t
theorem w3_4n (J : CallF) (H : Heap) {bm bv : Bool} (hs : SL y n) (k21 : J 21 [y] H = some (.bool bm, [], false)) (k22 : J 22 [v, G n, G 0] H = some (.bool bv, [], false)) (hb : (bm && bv) = false) (k23 : J 23 [] H = some (.bool true, [], false)) (f9 : H.get b9 = .cells 0 2 [G 0, G 0]) (f10 : H.get (b9 + 1) = .cells 0 2 [G 0, G 0]) :
    Tr tbl J (.seq c3_o4 (.cond (.s [true, false, false, true, false]) (.seq c3_o5 .ret) .skip)) (fun s h => s.get [false, true] = y ∧ s.get [true, true] = v ∧ s.get [false, false, false] = .nils ∧ s.get [true, false, false] = G 2 ∧ s.get [false, true, false] = .ptr b9 0 2 ∧ s.get [true, true, false] = .ptr (b9 + 1) 0 2 ∧ s.get [false, false, true] = G 2 ∧ h = H) .ret (fun s h => s.get [true, false] = .bool true) := by
  have m9 := f9
  have m10 := f10
  have hv : bm = true → bv = false := fun q => by rw [q] at hb; simpa using hb
  by_cases c : bm = true
  · have hv' := hv c
    subst c hv'
    have t : Tr tbl J ((.seq c3_o4 (.cond (.s [true, false, false, true, false]) (.seq c3_o5 .ret) .skip))) (fun s h => s.get [false, true] = y ∧ s.get [true, true] = v ∧ s.get [false, false, false] = .nils ∧ s.get [true, false, false] = G 2 ∧ s.get [false, true, false] = .ptr b9 0 2 ∧ s.get [true, true, false] = .ptr (b9 + 1) 0 2 ∧ s.get [false, false, true] = G 2 ∧ h = H) .ret (fun s h => s.get [true, false] = .bool true) := Tr.region fun s h hp => by
      obtain ⟨g0, g1, g2, g3, g4, g5, g6, rfl⟩ := hp
      rcases hs with ⟨rfl, rfl⟩ | ⟨rfl, rfl⟩ | ⟨b, w, rfl⟩ <;> (try rw [show ((0 : Nat) : Int) = 0 from rfl] at k22) <;> simp (disch := first | omega | exact getEq rfl | exact getO0 | exact Nat.le_of_ble_eq_true rfl) [c3_o4, c3_o5, came_some, goI, List.getElem?_cons_zero, List.getElem?_cons_succ, kn, keep, app_growP, app_noneP, plus_N, plus_at0, put_plus0, upd_N, upd_size, putAt, AV.cells, fillA, loadA, takeA, mk, Eff.isAll, Eff.isNone, Eff.commutes, Eff.spares, okPair, apart, eqAgg, fits, LK.fits, allEq, aveq, eqk, mmA, beqT, wrapI, idxI, tdivI, tmodI, decT, decF, ibT, ibF, inT, inF, evScope_c, if_pos, if_neg, g0, g1, g2, g3, g4, g5, g6, k21, k22, k23, m9, m10]
    exact t
  · have c' : bm = false := by simpa using c
    subst c'
    have t : Tr tbl J ((.seq c3_o4 (.cond (.s [true, false, false, true, false]) (.seq c3_o5 .ret) .skip))) (fun s h => s.get [false, true] = y ∧ s.get [true, true] = v ∧ s.get [false, false, false] = .nils ∧ s.get [true, false, false] = G 2 ∧ s.get [false, true, false] = .ptr b9 0 2 ∧ s.get [true, true, false] = .ptr (b9 + 1) 0 2 ∧ s.get [false, false, true] = G 2 ∧ h = H) .ret (fun s h => s.get [true, false] = .bool true) := Tr.region fun s h hp => by
      obtain ⟨g0, g1, g2, g3, g4, g5, g6, rfl⟩ := hp
      simp (disch := first | omega | exact getEq rfl | exact getO0 | exact Nat.le_of_ble_eq_true rfl) [c3_o4, c3_o5, came_some, goI, List.getElem?_cons_zero, List.getElem?_cons_succ, kn, keep, app_growP, app_noneP, plus_N, plus_at0, put_plus0, upd_N, upd_size, putAt, AV.cells, fillA, loadA, takeA, mk, Eff.isAll, Eff.isNone, Eff.commutes, Eff.spares, okPair, apart, eqAgg, fits, LK.fits, allEq, aveq, eqk, mmA, beqT, wrapI, idxI, tdivI, tmodI, decT, decF, ibT, ibF, inT, inF, evScope_c, if_pos, if_neg, g0, g1, g2, g3, g4, g5, g6, k21, k23, m9, m10]
    exact t
theorem w3_4 (J : CallF) (H : Heap) (hs : SL y n) (k21 : J 21 [y] H = some (.bool true, [], false)) (k22 : J 22 [v, G n, G 0] H = some (.bool true, [], false)) :
    Tr tbl J (.seq c3_o4 (.cond (.s [true, false, false, true, false]) (.seq c3_o5 .ret) .skip)) (fun s h => s.get [false, true] = y ∧ s.get [true, true] = v ∧ s.get [false, false, false] = l ∧ s.get [true, false, false] = G e ∧ s.get [false, true, false] = .ptr b9 0 2 ∧ s.get [true, true, false] = .ptr (b9 + 1) 0 2 ∧ s.get [false, false, true] = G f ∧ h = H) .normal (fun s h => s.get [false, true] = y ∧ s.get [true, true] = v ∧ s.get [false, false, false] = l ∧ s.get [true, false, false] = G e ∧ s.get [false, true, false] = .ptr b9 0 2 ∧ s.get [true, true, false] = .ptr (b9 + 1) 0 2 ∧ s.get [false, false, true] = G f ∧ h = H) := by
  have t : Tr tbl J ((.seq c3_o4 (.cond (.s [true, false, false, true, false]) (.seq c3_o5 .ret) .skip))) (fun s h => s.get [false, true] = y ∧ s.get [true, true] = v ∧ s.get [false, false, false] = l ∧ s.get [true, false, false] = G e ∧ s.get [false, true, false] = .ptr b9 0 2 ∧ s.get [true, true, false] = .ptr (b9 + 1) 0 2 ∧ s.get [false, false, true] = G f ∧ h = H) .normal (fun s h => s.get [false, true] = y ∧ s.get [true, true] = v ∧ s.get [false, false, false] = l ∧ s.get [true, false, false] = G e ∧ s.get [false, true, false] = .ptr b9 0 2 ∧ s.get [true, true, false] = .ptr (b9 + 1) 0 2 ∧ s.get [false, false, true] = G f ∧ h = H) := Tr.region fun s h hp => by
    obtain ⟨g0, g1, g2, g3, g4, g5, g6, rfl⟩ := hp
    rcases hs with ⟨rfl, rfl⟩ | ⟨rfl, rfl⟩ | ⟨b, w, rfl⟩ <;> (try rw [show ((0 : Nat) : Int) = 0 from rfl] at k22) <;> simp (disch := first | omega | exact getEq rfl | exact getO0 | exact Nat.le_of_ble_eq_true rfl) [c3_o4, came_some, goI, List.getElem?_cons_zero, List.getElem?_cons_succ, kn, keep, app_growP, app_noneP, plus_N, plus_at0, put_plus0, upd_N, upd_size, putAt, AV.cells, fillA, loadA, takeA, mk, Eff.isAll, Eff.isNone, Eff.commutes, Eff.spares, okPair, apart, eqAgg, fits, LK.fits, allEq, aveq, eqk, mmA, beqT, wrapI, idxI, tdivI, tmodI, decT, decF, ibT, ibF, inT, inF, evScope_c, if_pos, if_neg, g0, g1, g2, g3, g4, g5, g6, k21, k22]
  exact t
theorem w3_6 (J : CallF) (H : Heap) {l2 : AV} {own : List AObj} (k25 : J 25 [y, v] H = some (l2, own, false)) (k24 : J 24 [l, l2] (H.plus own) = some (.bool true, [], false)) :
    Tr tbl J (.seq c3_o6 (.cond (.s [true, true, false, true, false, false]) (.seq c3_o7 .ret) .skip)) (fun s h => s.get [false, true] = y ∧ s.get [true, true] = v ∧ s.get [false, false, false] = l ∧ s.get [true, false, false] = G 0 ∧ s.get [false, true, false] = .ptr b9 0 2 ∧ s.get [true, true, false] = .ptr (b9 + 1) 0 2 ∧ s.get [false, false, true] = G f ∧ h = H) .normal (fun s h => s.get [false, true] = y ∧ s.get [true, true] = v ∧ s.get [false, true, false] = .ptr b9 0 2 ∧ s.get [true, true, false] = .ptr (b9 + 1) 0 2 ∧ s.get [false, false, true] = G f ∧ h = H.plus own) := by
  have t : Tr tbl J ((.seq c3_o6 (.cond (.s [true, true, false, true, false, false]) (.seq c3_o7 .ret) .skip))) (fun s h => s.get [false, true] = y ∧ s.get [true, true] = v ∧ s.get [false, false, false] = l ∧ s.get [true, false, false] = G 0 ∧ s.get [false, true, false] = .ptr b9 0 2 ∧ s.get [true, true, false] = .ptr (b9 + 1) 0 2 ∧ s.get [false, false, true] = G f ∧ h = H) .normal (fun s h => s.get [false, true] = y ∧ s.get [true, true] = v ∧ s.get [false, true, false] = .ptr b9 0 2 ∧ s.get [true, true, false] = .ptr (b9 + 1) 0 2 ∧ s.get [false, false, true] = G f ∧ h = H.plus own) := Tr.region fun s h hp => by
    obtain ⟨g0, g1, g2, g3, g4, g5, g6, rfl⟩ := hp
    simp (disch := first | omega | exact getEq rfl | exact getO0 | exact Nat.le_of_ble_eq_true rfl) [c3_o6, came_some, goI, List.getElem?_cons_zero, List.getElem?_cons_succ, kn, keep, app_growP, app_noneP, plus_N, plus_at0, put_plus0, upd_N, upd_size, putAt, AV.cells, fillA, loadA, takeA, mk, Eff.isAll, Eff.isNone, Eff.commutes, Eff.spares, okPair, apart, eqAgg, fits, LK.fits, allEq, aveq, eqk, mmA, beqT, wrapI, idxI, tdivI, tmodI, decT, decF, ibT, ibF, inT, inF, evScope_c, if_pos, if_neg, g0, g1, g2, g3, g4, g5, g6, k25, k24, app_if, app_if']
  exact t
theorem w3_8n (J : CallF) (H : Heap) (hs : SL y n) (k22 : J 22 [v, G n, G 1] H = some (.bool false, [], false)) (k23 : J 23 [] H = some (.bool true, [], false)) (f9 : H.get b9 = .cells 0 2 [G 0, G 0]) (f10 : H.get (b9 + 1) = .cells 0 2 [G 0, G 0]) :
    Tr tbl J (.seq c3_o8 (.cond (.s [false, false, false, false, true, false]) (.seq c3_o9 .ret) .skip)) (fun s h => s.get [false, true] = y ∧ s.get [true, true] = v ∧ s.get [false, true, false] = .ptr b9 0 2 ∧ s.get [true, true, false] = .ptr (b9 + 1) 0 2 ∧ s.get [false, false, true] = G 2 ∧ h = H) .ret (fun s h => s.get [true, false] = .bool true) := by
  have m9 := f9
  have m10 := f10
  have t : Tr tbl J ((.seq c3_o8 (.cond (.s [false, false, false, false, true, false]) (.seq c3_o9 .ret) .skip))) (fun s h => s.get [false, true] = y ∧ s.get [true, true] = v ∧ s.get [false, true, false] = .ptr b9 0 2 ∧ s.get [true, true, false] = .ptr (b9 + 1) 0 2 ∧ s.get [false, false, true] = G 2 ∧ h = H) .ret (fun s h => s.get [true, false] = .bool true) := Tr.region fun s h hp => by
    obtain ⟨g0, g1, g2, g3, g4, rfl⟩ := hp
    rcases hs with ⟨rfl, rfl⟩ | ⟨rfl, rfl⟩ | ⟨b, w, rfl⟩ <;> (try rw [show ((0 : Nat) : Int) = 0 from rfl] at k22) <;> simp (disch := first | omega | exact getEq rfl | exact getO0 | exact Nat.le_of_ble_eq_true rfl) [c3_o8, c3_o9, came_some, goI, List.getElem?_cons_zero, List.getElem?_cons_succ, kn, keep, app_growP, app_noneP, plus_N, plus_at0, put_plus0, upd_N, upd_size, putAt, AV.cells, fillA, loadA, takeA, mk, Eff.isAll, Eff.isNone, Eff.commutes, Eff.spares, okPair, apart, eqAgg, fits, LK.fits, allEq, aveq, eqk, mmA, beqT, wrapI, idxI, tdivI, tmodI, decT, decF, ibT, ibF, inT, inF, evScope_c, if_pos, if_neg, g0, g1, g2, g3, g4, k22, k23, m9, m10]
  exact t
theorem w3_8 (J : CallF) (H : Heap) (hs : SL y n) (k22 : J 22 [v, G n, G 1] H = some (.bool true, [], false)) :
    Tr tbl J (.seq c3_o8 (.cond (.s [false, false, false, false, true, false]) (.seq c3_o9 .ret) .skip)) (fun s h => s.get [false, true] = y ∧ s.get [true, true] = v ∧ s.get [false, true, false] = .ptr b9 0 2 ∧ s.get [true, true, false] = .ptr (b9 + 1) 0 2 ∧ s.get [false, false, true] = G f ∧ h = H) .normal (fun s h => s.get [false, true] = y ∧ s.get [true, true] = v ∧ s.get [false, true, false] = .ptr b9 0 2 ∧ s.get [true, true, false] = .ptr (b9 + 1) 0 2 ∧ s.get [false, false, true] = G f ∧ h = H) := by
  have t : Tr tbl J ((.seq c3_o8 (.cond (.s [false, false, false, false, true, false]) (.seq c3_o9 .ret) .skip))) (fun s h => s.get [false, true] = y ∧ s.get [true, true] = v ∧ s.get [false, true, false] = .ptr b9 0 2 ∧ s.get [true, true, false] = .ptr (b9 + 1) 0 2 ∧ s.get [false, false, true] = G f ∧ h = H) .normal (fun s h => s.get [false, true] = y ∧ s.get [true, true] = v ∧ s.get [false, true, false] = .ptr b9 0 2 ∧ s.get [true, true, false] = .ptr (b9 + 1) 0 2 ∧ s.get [false, false, true] = G f ∧ h = H) := Tr.region fun s h hp => by
    obtain ⟨g0, g1, g2, g3, g4, rfl⟩ := hp
    rcases hs with ⟨rfl, rfl⟩ | ⟨rfl, rfl⟩ | ⟨b, w, rfl⟩ <;> (try rw [show ((0 : Nat) : Int) = 0 from rfl] at k22) <;> simp (disch := first | omega | exact getEq rfl | exact getO0 | exact Nat.le_of_ble_eq_true rfl) [c3_o8, came_some, goI, List.getElem?_cons_zero, List.getElem?_cons_succ, kn, keep, app_growP, app_noneP, plus_N, plus_at0, put_plus0, upd_N, upd_size, putAt, AV.cells, fillA, loadA, takeA, mk, Eff.isAll, Eff.isNone, Eff.commutes, Eff.spares, okPair, apart, eqAgg, fits, LK.fits, allEq, aveq, eqk, mmA, beqT, wrapI, idxI, tdivI, tmodI, decT, decF, ibT, ibF, inT, inF, evScope_c, if_pos, if_neg, g0, g1, g2, g3, g4, k22]
  exact t
theorem w3_10 (J : CallF) (H : Heap) (k26 : J 26 [y, v] H = some (.tup [.agg [G u1, G v1], .agg [G u2, G v2]], [], false)) (k23 : ∀ h, J 23 [] h = some (.bool true, [], false)) (f9 : H.get b9 = .cells 0 2 [G u1, G v1]) (f10 : H.get (b9 + 1) = .cells 0 2 [G u2, G v2]) :
    Tr tbl J (.seq c3_o10 (.seq c3_o11 .ret)) (fun s h => s.get [false, true] = y ∧ s.get [true, true] = v ∧ s.get [false, true, false] = .ptr b9 0 2 ∧ s.get [true, true, false] = .ptr (b9 + 1) 0 2 ∧ s.get [false, false, true] = G 0 ∧ h = H) .ret (fun s h => s.get [true, false] = .bool true) := by
  have hsz : ∀ X, (H.plus [X]).size = H.size + 1 := fun X => by rw [plus_size]; rfl
  obtain ⟨H2, s2⟩ : ∃ H2, (H.plus [.cells 0 2 [G u1, G v1]]).plus [.cells 0 2 [G u2, G v2]] = H2 := ⟨_, rfl⟩
  have m9 : H2.get b9 = .cells 0 2 [G u1, G v1] := by rw [← s2]; exact plus_keep _ (plus_keep _ f9 (by simp)) (by simp)
  have m10 : H2.get (b9 + 1) = .cells 0 2 [G u2, G v2] := by rw [← s2]; exact plus_keep _ (plus_keep _ f10 (by simp)) (by simp)
  have m12 : H2.get H.size = .cells 0 2 [G u1, G v1] := by rw [← s2]; exact plus_keep _ (plus_at0 _ _ _ _ rfl) (by simp)
  have m13 : H2.get (H.size + 1) = .cells 0 2 [G u2, G v2] := by rw [← s2]; exact plus_at0 _ _ _ _ (hsz _)
  have t1 : Tr tbl J (c3_o10) (fun s h => s.get [false, true] = y ∧ s.get [true, true] = v ∧ s.get [false, true, false] = .ptr b9 0 2 ∧ s.get [true, true, false] = .ptr (b9 + 1) 0 2 ∧ s.get [false, false, true] = G 0 ∧ h = H) .normal (fun s h => s.get [false, true, false] = .ptr b9 0 2 ∧ s.get [true, true, false] = .ptr (b9 + 1) 0 2 ∧ s.get [false, false, true] = G 0 ∧ s.get [true, false, true] = .ptr H.size 0 2 ∧ s.get [false, true, true] = .ptr (H.size + 1) 0 2 ∧ h = H2) := Tr.region fun s h hp => by
    obtain ⟨g0, g1, g2, g3, g4, rfl⟩ := hp
    simp (disch := first | omega | exact getEq rfl | exact getO0 | exact Nat.le_of_ble_eq_true rfl) [c3_o10, came_some, goI, List.getElem?_cons_zero, List.getElem?_cons_succ, kn, keep, app_growP, app_noneP, plus_N, plus_at0, put_plus0, upd_N, upd_size, putAt, AV.cells, fillA, loadA, takeA, mk, Eff.isAll, Eff.isNone, Eff.commutes, Eff.spares, okPair, apart, eqAgg, fits, LK.fits, allEq, aveq, eqk, mmA, beqT, wrapI, idxI, tdivI, tmodI, decT, decF, ibT, ibF, inT, inF, evScope_c, if_pos, if_neg, g0, g1, g2, g3, g4, k26, hsz, put_two, put_two1, s2]
  clear s2
  generalize H.size = b12 at *
  have t2 : Tr tbl J ((.seq c3_o11 .ret)) (fun s h => s.get [false, true, false] = .ptr b9 0 2 ∧ s.get [true, true, false] = .ptr (b9 + 1) 0 2 ∧ s.get [false, false, true] = G 0 ∧ s.get [true, false, true] = .ptr b12 0 2 ∧ s.get [false, true, true] = .ptr (b12 + 1) 0 2 ∧ h = H2) .ret (fun s h => s.get [true, false] = .bool true) := Tr.region fun s h hp => by
    obtain ⟨g0, g1, g2, g3, g4, rfl⟩ := hp
    simp (disch := first | omega | exact getEq rfl | exact getO0 | exact Nat.le_of_ble_eq_true rfl) [c3_o11, came_some, goI, List.getElem?_cons_zero, List.getElem?_cons_succ, kn, keep, app_growP, app_noneP, plus_N, plus_at0, put_plus0, upd_N, upd_size, putAt, AV.cells, fillA, loadA, takeA, mk, Eff.isAll, Eff.isNone, Eff.commutes, Eff.spares, okPair, apart, eqAgg, fits, LK.fits, allEq, aveq, eqk, mmA, beqT, wrapI, idxI, tdivI, tmodI, decT, decF, ibT, ibF, inT, inF, evScope_c, if_pos, if_neg, g0, g1, g2, g3, g4, k23, m9, m10, m12, m13]
  exact Tr.seq t1 t2
end
theorem bounds_law (J : CallF) (K : KnR J) (hJ : ∀ a h, J 3 a h = none) (h : Heap) {m x : AV} {M : List (List Int)} {X : List Int} (hm : MR h m M) (hx : LR h x X) : CallsTo tbl J 3 [m, x] h (.bool true, [], false) := by
  refine Tr.fnv (cf := c3) (e := .ret) (s := T.set (T.set .leaf [] m) [false] x) (by decide) rfl (hJ _ _) rfl rfl rfl (by simp) ?_
  refine Tr.post (Q := (fun s h => s.get [true, false] = .bool true)) (fun s h' q => by simp [c3, q]) ?_
  obtain ⟨y, own, k17, tg⟩ := K.k17 (frameOf h) m M (hm.lo [])
  have hx1 : LR ((frameOf h).plus own) x X := LR.kp (Kp.plus _ _) (LR.lo hx [])
  have t1 := w3_1 J h k17 K.k18 hx1
  have hv := cp_list ((frameOf h).plus own) X
  have hy : MR (((frameOf h).plus own).plus (cpO X)) y (cutM M) := tg.mr.kp (Kp.plus _ _)
  have hlM : (cutM M).length < 9223372036854775808 := by simp [cutM]; omega
  have hlX : (X.take 10).length < 9223372036854775808 := by simp; omega
  generalize cpV ((frameOf h).plus own).size X = v at *
  generalize ((frameOf h).plus own).plus (cpO X) = H1 at *
  generalize cutM M = N at *
  generalize X.take 10 = V at *
  have lv : LR H1 v V := .inl hv
  have hs := hy.sl
  refine Tr.app2 t1 ?_
  by_cases hk : vOk 0 N V
  · obtain ⟨w, own19, k19, ng⟩ := K.k19 H1 y v N V hy lv hk
    have kp1 : Kp (fun _ => False) H1 (H1.plus own19) := Kp.plus _ _
    refine Tr.seq (w3_2 J H1 k19) ?_
    have hy := hy.kp kp1
    have lv := LR.kp kp1 lv
    have lw := ng.list
    generalize H1.plus own19 = H2 at *
    clear k19 ng kp1 hv t1 tg k17
    have kp2 : ∀ a b, Kp (fun _ => False) H2 ((H2.plus [a]).plus [b]) := fun a b => (Kp.plus _ _).trans (Kp.plus _ _)
    have go : ∀ (u1 v1 u2 v2 f : Int), J 20 [y, v] H2 = some (.tup [.agg [G u1, G v1], .agg [G u2, G v2], G f], [], false) → (∀ H b9, MR H y N → LR H v V → H.get b9 = .cells 0 2 [G u1, G v1] → H.get (b9 + 1) = .cells 0 2 [G u2, G v2] → Tr tbl J (.seq (.seq c3_o8 (.cond (.s [false, false, false, false, true, false]) (.seq c3_o9 .ret) .skip)) (.seq c3_o10 (.seq c3_o11 .ret))) (fun s h => s.get [false, true] = y ∧ s.get [true, true] = v ∧ s.get [false, true, false] = .ptr b9 0 2 ∧ s.get [true, true, false] = .ptr (b9 + 1) 0 2 ∧ s.get [false, false, true] = G f ∧ h = H) .ret (fun s h => s.get [true, false] = .bool true)) →
        Tr tbl J (.seq c3_o3 (.seq (.seq c3_o4 (.cond (.s [true, false, false, true, false]) (.seq c3_o5 .ret) .skip)) (.seq (.seq c3_o6 (.cond (.s [true, true, false, true, false, false]) (.seq c3_o7 .ret) .skip)) (.seq (.seq c3_o8 (.cond (.s [false, false, false, false, true, false]) (.seq c3_o9 .ret) .skip)) (.seq c3_o10 (.seq c3_o11 .ret)))))) (fun s h => s.get [false, true] = y ∧ s.get [true, true] = v ∧ s.get [false, false, false] = w ∧ s.get [true, false, false] = G 0 ∧ h = H2) .ret (fun s h => s.get [true, false] = .bool true) := by
      intro u1 v1 u2 v2 f k20 hgo
      refine Tr.seq (w3_3 J H2 k20) ?_
      have f9 : ((H2.plus [.cells 0 2 [G u1, G v1]]).plus [.cells 0 2 [G u2, G v2]]).get H2.size = .cells 0 2 [G u1, G v1] := plus_keep _ (plus_at0 _ _ _ _ rfl) (by simp)
      have f10 : ((H2.plus [.cells 0 2 [G u1, G v1]]).plus [.cells 0 2 [G u2, G v2]]).get (H2.size + 1) = .cells 0 2 [G u2, G v2] := plus_at0 _ _ _ _ (by rw [plus_size]; rfl)
      have hy := hy.kp (kp2 (.cells 0 2 [G u1, G v1]) (.cells 0 2 [G u2, G v2]))
      have lv := LR.kp (kp2 (.cells 0 2 [G u1, G v1]) (.cells 0 2 [G u2, G v2])) lv
      have lw := listOf_kp (kp2 (.cells 0 2 [G u1, G v1]) (.cells 0 2 [G u2, G v2])) lw (fun _ _ => id)
      generalize (H2.plus [.cells 0 2 [G u1, G v1]]).plus [.cells 0 2 [G u2, G v2]] = H3 at *
      generalize H2.size = b9 at *
      have q21 := K.k21 H3 y N hy hlM
      have q22 := K.k22 H3 v V N.length 0 lv hlX
      rw [hk.1] at q21
      rw [hk.2.2, hk.2.1, decide_eq_true rfl] at q22
      refine Tr.seq (w3_4 J H3 hs q21 q22) ?_
      obtain ⟨w2, own25, k25, ng2⟩ := K.k25 H3 y v N V hy lv hk
      have kp3 : Kp (fun _ => False) H3 (H3.plus own25) := Kp.plus _ _
      have q24 := K.k24 (H3.plus own25) w w2 _ _ (listOf_kp kp3 lw (fun _ _ => id)) ng2.list (by
        have := isMat_n hk.1
        rw [show (nxtL N V).length = N.length from lf_len _ _]; omega)
      rw [decide_eq_true rfl] at q24
      exact Tr.seq (w3_6 J H3 k25 q24) (hgo _ _ (hy.kp kp3) (LR.kp kp3 lv) (plus_keep _ f9 (by simp)) (plus_keep _ f10 (by simp)))
    by_cases hk1 : vOk 1 N V
    · have q20 := K.k20 H2 y v N V hy lv hk1
      have q26 := fun H a b => K.k26 H y v N V a b hk1
      unfold bdV at q20 q26
      simp only [fr_uv] at q20 q26
      refine go _ _ _ _ _ q20 fun H b9 hy lv f9 f10 => ?_
      have q22 := K.k22 H v V N.length 1 lv hlX
      rw [hk1.2.2, hk1.2.1, decide_eq_true rfl] at q22
      exact Tr.seq (w3_8 J H hs q22) (w3_10 J H (q26 H hy lv) K.k23 f9 f10)
    · have q20 := K.k20n H2 y v N V hy lv hlX hk1
      refine go _ _ _ _ _ q20 fun H b9 hy lv f9 f10 => ?_
      have q22 := K.k22 H v V N.length 1 lv hlX
      have hf : allIn 1 100000000 V = false := by
        cases e : allIn 1 100000000 V
        · rfl
        · exact absurd ⟨hk.1, hk.2.1, e⟩ hk1
      rw [hf, Bool.false_and] at q22
      exact Tr.seq_out (w3_8n J H hs q22 (K.k23 _) f9 f10) (by simp)
  · have q19 := K.k19n H1 y v N V hy lv hlX hk
    have hk1 : ¬ vOk 1 N V := fun q => hk (vOk_10 q)
    refine Tr.seq (w3_2 J H1 q19) ?_
    rw [show H1.plus [] = H1 by simp [Heap.plus]]
    have q20 := K.k20n H1 y v N V hy lv hlX hk1
    refine Tr.seq (w3_3 J H1 q20) (Tr.seq_out ?_ (by simp))
    have kp2 : Kp (fun _ => False) H1 ((H1.plus [.cells 0 2 [G 0, G 0]]).plus [.cells 0 2 [G 0, G 0]]) := (Kp.plus _ _).trans (Kp.plus _ _)
    refine w3_4n J _ hs (K.k21 _ y N (hy.kp kp2) hlM) (K.k22 _ v V N.length 0 (LR.kp kp2 lv) hlX) ?_ (K.k23 _) (plus_keep _ (plus_at0 _ _ _ _ rfl) (by simp)) (plus_at0 _ _ _ _ (by rw [plus_size]; rfl))
    cases c : (isMat N && (allIn 0 100000000 V && decide ((V.length : Int) = N.length)))
    · rfl
    · simp only [Bool.and_eq_true, decide_eq_true_eq, Int.natCast_inj] at c
      exact absurd ⟨c.1, c.2.2, c.2.1⟩ hk
theorem bounds_ok (h : Heap) {m x : AV} {M : List (List Int)} {X : List Int} (hm : MR h m M) (hx : LR h x X) : CallsTo tbl R21 3 [m, x] h (.bool true, [], false) := bounds_law R21 knR21 (fun _ _ => by
  simp (disch := decide) only [R21, R20, R19, R18, R17, R16, R15, R14, R13, R12, R11, R10, R9, R8, R7, R6, R5, R4, R3, R2, R1, addI_ne, addX_ne, addV_ne]; rfl) h hm hx

end Go.Proofs.Ytjeemgaoonapgaa.Ev
