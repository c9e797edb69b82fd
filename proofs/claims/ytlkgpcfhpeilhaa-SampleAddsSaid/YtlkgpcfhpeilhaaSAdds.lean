/-
  SampleAdds answers true at any two ints and any two lists, as the evaluator runs it. No condition.
-/
import Derived.Test.YtlkgpcfhpeilhaaSTab2
import Derived.Test.YtlkgpcfhpeilhaaSMass
import Derived.Test.YtlkgpcfhpeilhaaSBig
set_option linter.unusedVariables false
set_option linter.unusedSimpArgs false
namespace Go.Proofs.Ytlkgpcfhpeilhaa.Ev
open Go Go.AEv

attribute [local simp] evFunc initS evOps_c evTrim_c evSkip_c evExit_c evRet_c evSeq_c evCond_c evBlock_c evDraw_c runOps_n runOps_c exec_n exec_g pure1_c act AOpd.ev T.get T.set T.put evBin evUn forceT_eq forceV_eq forceL_eq evRess evRes one keep runFP_n runFP_c app_none AV.flats AV.flat

/-! ### One fraction -/
structure Fq (Z y u v : Int) : Prop where
  w : vOk u v
  d : Z % v = 0
  l : u ≤ v
  e : Z / v * u = y
  q : 0 ≤ Z / v ∧ Z / v ≤ 1099511627776
theorem fq_ok {Z y : Int} (h1 : 0 ≤ y) (h2 : y ≤ Z) (h3 : 1 ≤ Z) (h4 : Z ≤ 1099511627776) : Fq Z y (frU y Z) (frV y Z) := by
  obtain ⟨g, u, v, a1, a2, a3, a4, a5, a6, a7⟩ := fr_two (x := y) (y := Z) h1 (by omega)
  have e : fr y Z = .agg [G (frU y Z), G (frV y Z)] := rfl
  rw [e] at a4
  simp only [AV.agg.injEq, List.cons.injEq, AV.int.injEq, true_and, and_true] at a4
  obtain ⟨e1, e2⟩ := a4
  rw [e1, e2]
  have hv : v ≠ 0 := by omega
  have hq : Z / v = g := by rw [a3, Int.mul_ediv_cancel _ hv]
  refine ⟨⟨by omega, by omega, a7⟩, by rw [a3]; exact Int.mul_emod_left _ _, ?_, by rw [hq, ← a2], ?_⟩
  · rw [a2, a3] at h2; exact Int.le_of_mul_le_mul_left h2 a1
  · rw [hq]
    have : g * 1 ≤ g * v := Int.mul_le_mul_of_nonneg_left a6.1 (Int.le_of_lt a1)
    omega
theorem fz_0 (U V : Nat → Int) (M d : Nat) (h : d < M) : (fz U V M)[d * 2]? = some (G (U d)) := by
  have e := congrArg (·[0]?) (fz_at U V M d h)
  simp only [List.getElem?_take, List.getElem?_drop] at e
  simpa using e
theorem fz_1 (U V : Nat → Int) (M d : Nat) (h : d < M) : (fz U V M)[d * 2 + 1]? = some (G (V d)) := by
  have e := congrArg (·[1]?) (fz_at U V M d h)
  simp only [List.getElem?_take, List.getElem?_drop] at e
  simpa using e

section
variable {lot bad x0 x1 : Int} {x y : AV} {A R La Lr : List Int} {n Z : Nat}
theorem w13_1 (J : CallF) (K : KnA J) (h : Heap) (e1 : lotZ x0 = lot) (e4 : mdZ x1 (lot + 1) = bad) (hl : 1 ≤ lot ∧ lot ≤ 36) : Tr tbl J (.seq c13_o0 (.seq c13_o1 c13_o2)) (fun s h' => s = T.set (T.set (T.set .leaf [] (.agg [G x0, G x1])) [false] x) [true] y ∧ h' = frameOf h) .normal (fun s h' => s.get [false] = x ∧ s.get [true] = y ∧ s.get [false, false, false] = G lot ∧ s.get [true, false, false] = G bad ∧ h' = ⟨h.get, h.size, [.cells 0 2 [G x0, G x1]]⟩) := by
  have e2 : 1 + mdZ x0 36 = lot := e1
  obtain ⟨d1, f1⟩ : ∃ z, mdZ x0 36 = z := ⟨_, rfl⟩
  rw [f1] at e2
  have m1 := mdZ_lo x0 (show (0 : Int) < 36 by omega)
  have m2 := mdZ_hi x0 (show (0 : Int) < 36 by omega)
  have t : Tr tbl J ((.seq c13_o0 (.seq c13_o1 c13_o2))) (fun s h' => s = T.set (T.set (T.set .leaf [] (.agg [G x0, G x1])) [false] x) [true] y ∧ h' = frameOf h) .normal (fun s h' => s.get [false] = x ∧ s.get [true] = y ∧ s.get [false, false, false] = G lot ∧ s.get [true, false, false] = G bad ∧ h' = ⟨h.get, h.size, [.cells 0 2 [G x0, G x1]]⟩) := Tr.region fun s h hp => by
    obtain ⟨rfl, rfl⟩ := hp
    simp (disch := first | omega | exact getEq rfl | exact getO0 | exact Nat.le_of_ble_eq_true rfl) [c13_o0, c13_o1, c13_o2, frameOf, came_some, goI, List.getElem?_cons_zero, List.getElem?_cons_succ, kn, keep, frameOf, size_mk, get_mk_lt, get_mk_ge, Eff.app, Heap.setOwn, putAt, AV.cells, fillA, loadA, takeA, mk, Eff.isAll, Eff.isNone, Eff.commutes, Eff.spares, okPair, apart, eqAgg, fits, LK.fits, allEq, aveq, eqk, mmA, beqT, wrapI, idxI, tdivI, tmodI, decT, decF, ibT, ibF, inT, inF, evScope_c, if_pos, if_neg, K.k24, f1, e2, e4]
  exact t
theorem put_two (h : Heap) (a b : AV) (U V : AV) (zs : List AObj) : Eff.app (.put h.size 2 0 [U, V]) ((h.plus [.cells 0 2 [a, b]]).plus zs) = some ((h.plus [.cells 0 2 [U, V]]).plus zs) := by
  rw [plus_plus, plus_plus]; exact put_plus0 h 2 0 0 [a, b] [U, V] zs h.size rfl (by simp)
theorem put_two1 (h : Heap) (X : AObj) (a b : AV) (U V : AV) : Eff.app (.put (h.size + 1) 2 0 [U, V]) ((h.plus [X]).plus [.cells 0 2 [a, b]]) = some ((h.plus [X]).plus [.cells 0 2 [U, V]]) :=
  put_plus0 (h.plus [X]) 2 0 0 [a, b] [U, V] [] (h.size + 1) (by rw [plus_size]; rfl) (by simp)
theorem w13_4 (J : CallF) {b9 : Nat} {xa xr : AV} {u v p q : Int} (H : Heap) (f9 : H.get b9 = .cells 0 2 [xa, xr]) (k33 : J 33 [G lot, .agg [xa, xr]] H = some (G 0, [], false)) (k34 : J 34 [G lot, G bad, .agg [xa, xr]] H = some (.tup [.agg [G u, G v], .agg [G p, G q], G 0], [], false)) :
    Tr tbl J (.seq c13_o4 c13_o5) (fun s h => s.get [false, false, false] = G lot ∧ s.get [true, false, false] = G bad ∧ s.get [false, true, false] = .ptr b9 0 2 ∧ h = H) .normal (fun s h => s.get [false, false, false] = G lot ∧ s.get [true, false, false] = G bad ∧ s.get [false, true, false] = .ptr b9 0 2 ∧ s.get [true, true, false] = G 0 ∧ s.get [false, false, true] = .ptr H.size 0 2 ∧ s.get [true, false, true] = .ptr (H.size + 1) 0 2 ∧ s.get [false, true, true] = G 0 ∧ h = (H.plus [.cells 0 2 [G u, G v]]).plus [.cells 0 2 [G p, G q]]) := by
  have hs : ∀ X : AObj, (H.plus [X]).size = H.size + 1 := fun X => by rw [plus_size]; rfl
  have t : Tr tbl J ((.seq c13_o4 c13_o5)) (fun s h => s.get [false, false, false] = G lot ∧ s.get [true, false, false] = G bad ∧ s.get [false, true, false] = .ptr b9 0 2 ∧ h = H) .normal (fun s h => s.get [false, false, false] = G lot ∧ s.get [true, false, false] = G bad ∧ s.get [false, true, false] = .ptr b9 0 2 ∧ s.get [true, true, false] = G 0 ∧ s.get [false, false, true] = .ptr H.size 0 2 ∧ s.get [true, false, true] = .ptr (H.size + 1) 0 2 ∧ s.get [false, true, true] = G 0 ∧ h = (H.plus [.cells 0 2 [G u, G v]]).plus [.cells 0 2 [G p, G q]]) := Tr.region fun s h hp => by
    obtain ⟨g0, g1, g2, rfl⟩ := hp
    simp (disch := first | omega | exact getEq rfl | exact getO0 | exact Nat.le_of_ble_eq_true rfl) [c13_o4, c13_o5, came_some, goI, List.getElem?_cons_zero, List.getElem?_cons_succ, kn, keep, app_growP, app_noneP, plus_N, plus_at0, put_plus0, upd_N, upd_size, putAt, AV.cells, fillA, loadA, takeA, mk, Eff.isAll, Eff.isNone, Eff.commutes, Eff.spares, okPair, apart, eqAgg, fits, LK.fits, allEq, aveq, eqk, mmA, beqT, wrapI, idxI, tdivI, tmodI, decT, decF, ibT, ibF, inT, inF, evScope_c, if_pos, if_neg, g0, g1, g2, f9, k33, k34, hs, put_two, put_two1]
  exact t
theorem w13_6 (J : CallF) (K : KnA J) {b9 ba br v1 v2 : Nat} {xa xr x11 x12 : AV} {own : List AObj} (H : Heap) (f9 : H.get b9 = .cells 0 2 [xa, xr]) (k39 : J 39 [G lot, G bad, .agg [xa, xr]] H = some (.tup [.slice ba 0 n v1, .slice br 0 n v2, G 0], own, false)) (hne : own ≠ []) (hl : lotOk lot bad) (hZ : ofZ lot bad = Z) :
    Tr tbl J (.seq c13_o6 c13_o7) (fun s h => s.get [false, false, false] = G lot ∧ s.get [true, false, false] = G bad ∧ s.get [false, true, false] = .ptr b9 0 2 ∧ s.get [true, true, false] = G 0 ∧ s.get [false, false, true] = x11 ∧ s.get [true, false, true] = x12 ∧ s.get [false, true, true] = G 0 ∧ h = H) .normal (fun s h => s.get [false, true, false] = .ptr b9 0 2 ∧ s.get [true, true, false] = G 0 ∧ s.get [false, false, true] = x11 ∧ s.get [true, false, true] = x12 ∧ s.get [false, true, true] = G 0 ∧ s.get [true, true, true] = .slice ba 0 n v1 ∧ s.get [false, false, false, false] = .slice br 0 n v2 ∧ s.get [true, false, false, false] = G 0 ∧ s.get [false, true, false, false] = G Z ∧ s.get [true, true, false, false] = G 0 ∧ h = H.plus own) := by
  have k28 := fun h => K.k28 h lot bad
  rw [hZ] at k28
  simp only [if_pos hl] at k28
  have t : Tr tbl J ((.seq c13_o6 c13_o7)) (fun s h => s.get [false, false, false] = G lot ∧ s.get [true, false, false] = G bad ∧ s.get [false, true, false] = .ptr b9 0 2 ∧ s.get [true, true, false] = G 0 ∧ s.get [false, false, true] = x11 ∧ s.get [true, false, true] = x12 ∧ s.get [false, true, true] = G 0 ∧ h = H) .normal (fun s h => s.get [false, true, false] = .ptr b9 0 2 ∧ s.get [true, true, false] = G 0 ∧ s.get [false, false, true] = x11 ∧ s.get [true, false, true] = x12 ∧ s.get [false, true, true] = G 0 ∧ s.get [true, true, true] = .slice ba 0 n v1 ∧ s.get [false, false, false, false] = .slice br 0 n v2 ∧ s.get [true, false, false, false] = G 0 ∧ s.get [false, true, false, false] = G Z ∧ s.get [true, true, false, false] = G 0 ∧ h = H.plus own) := Tr.region fun s h hp => by
    obtain ⟨g0, g1, g2, g3, g4, g5, g6, rfl⟩ := hp
    simp (disch := first | omega | exact getEq rfl | exact getO0 | exact Nat.le_of_ble_eq_true rfl) [c13_o6, c13_o7, came_some, goI, List.getElem?_cons_zero, List.getElem?_cons_succ, kn, keep, app_growP, app_noneP, plus_N, plus_at0, put_plus0, upd_N, upd_size, putAt, AV.cells, fillA, loadA, takeA, mk, Eff.isAll, Eff.isNone, Eff.commutes, Eff.spares, okPair, apart, eqAgg, fits, LK.fits, allEq, aveq, eqk, mmA, beqT, wrapI, idxI, tdivI, tmodI, decT, decF, ibT, ibF, inT, inF, evScope_c, if_pos, if_neg, g0, g1, g2, g3, g4, g5, g6, f9, k39, hne, k28]
  exact t
theorem w13_8 (J : CallF) {b9 ba br v1 v2 q0 m0 q1 m1 : Nat} {x11 x12 : AV} (H : Heap) (f9 : H.get b9 = .cells 0 2 [.slice q0 0 n m0, .slice q1 0 n m1]) (hZ : 1 ≤ Z ∧ Z ≤ 1099511627776) :
    Tr tbl J (.seq c13_o8 (.cond (.s [true, false, true, false, false, true]) (.seq c13_o9 .ret) .skip)) (fun s h => s.get [false, true, false] = .ptr b9 0 2 ∧ s.get [true, true, false] = G 0 ∧ s.get [false, false, true] = x11 ∧ s.get [true, false, true] = x12 ∧ s.get [false, true, true] = G 0 ∧ s.get [true, true, true] = .slice ba 0 n v1 ∧ s.get [false, false, false, false] = .slice br 0 n v2 ∧ s.get [true, false, false, false] = G 0 ∧ s.get [false, true, false, false] = G Z ∧ s.get [true, true, false, false] = G 0 ∧ h = H) .normal (fun s h => s.get [false, false, true] = x11 ∧ s.get [true, false, true] = x12 ∧ s.get [true, true, true] = .slice ba 0 n v1 ∧ s.get [false, false, false, false] = .slice br 0 n v2 ∧ s.get [false, true, false, false] = G Z ∧ h = H) := by
  have t : Tr tbl J ((.seq c13_o8 (.cond (.s [true, false, true, false, false, true]) (.seq c13_o9 .ret) .skip))) (fun s h => s.get [false, true, false] = .ptr b9 0 2 ∧ s.get [true, true, false] = G 0 ∧ s.get [false, false, true] = x11 ∧ s.get [true, false, true] = x12 ∧ s.get [false, true, true] = G 0 ∧ s.get [true, true, true] = .slice ba 0 n v1 ∧ s.get [false, false, false, false] = .slice br 0 n v2 ∧ s.get [true, false, false, false] = G 0 ∧ s.get [false, true, false, false] = G Z ∧ s.get [true, true, false, false] = G 0 ∧ h = H) .normal (fun s h => s.get [false, false, true] = x11 ∧ s.get [true, false, true] = x12 ∧ s.get [true, true, true] = .slice ba 0 n v1 ∧ s.get [false, false, false, false] = .slice br 0 n v2 ∧ s.get [false, true, false, false] = G Z ∧ h = H) := Tr.region fun s h hp => by
    obtain ⟨g0, g1, g2, g3, g4, g5, g6, g7, g8, g9, rfl⟩ := hp
    simp (disch := first | omega | exact getEq rfl | exact getO0 | exact Nat.le_of_ble_eq_true rfl) [c13_o8, came_some, goI, List.getElem?_cons_zero, List.getElem?_cons_succ, kn, keep, app_growP, app_noneP, plus_N, plus_at0, put_plus0, upd_N, upd_size, putAt, AV.cells, fillA, loadA, takeA, mk, Eff.isAll, Eff.isNone, Eff.commutes, Eff.spares, okPair, apart, eqAgg, fits, LK.fits, allEq, aveq, eqk, mmA, beqT, wrapI, idxI, tdivI, tmodI, decT, decF, ibT, ibF, inT, inF, evScope_c, if_pos, if_neg, g0, g1, g2, g3, g4, g5, g6, g7, g8, g9, f9]
  exact t
theorem w13_10 (J : CallF) {x11 x12 x14 x15 x17 : AV} (H : Heap) :
    Tr tbl J c13_o10 (fun s h => s.get [false, false, true] = x11 ∧ s.get [true, false, true] = x12 ∧ s.get [true, true, true] = x14 ∧ s.get [false, false, false, false] = x15 ∧ s.get [false, true, false, false] = x17 ∧ h = H) .normal (fun s h => s.get [false, false, true] = x11 ∧ s.get [true, false, true] = x12 ∧ s.get [true, true, true] = x14 ∧ s.get [false, false, false, false] = x15 ∧ s.get [false, true, false, false] = x17 ∧ s.get [false, false, true, false] = G 0 ∧ s.get [true, false, true, false] = G 0 ∧ s.get [false, true, true, false] = G 0 ∧ h = H) := by
  have t : Tr tbl J (c13_o10) (fun s h => s.get [false, false, true] = x11 ∧ s.get [true, false, true] = x12 ∧ s.get [true, true, true] = x14 ∧ s.get [false, false, false, false] = x15 ∧ s.get [false, true, false, false] = x17 ∧ h = H) .normal (fun s h => s.get [false, false, true] = x11 ∧ s.get [true, false, true] = x12 ∧ s.get [true, true, true] = x14 ∧ s.get [false, false, false, false] = x15 ∧ s.get [false, true, false, false] = x17 ∧ s.get [false, false, true, false] = G 0 ∧ s.get [true, false, true, false] = G 0 ∧ s.get [false, true, true, false] = G 0 ∧ h = H) := Tr.region fun s h hp => by
    obtain ⟨g0, g1, g2, g3, g4, rfl⟩ := hp
    simp (disch := first | omega | exact getEq rfl | exact getO0 | exact Nat.le_of_ble_eq_true rfl) [c13_o10, came_some, goI, List.getElem?_cons_zero, List.getElem?_cons_succ, kn, keep, app_growP, app_noneP, plus_N, plus_at0, put_plus0, upd_N, upd_size, putAt, AV.cells, fillA, loadA, takeA, mk, Eff.isAll, Eff.isNone, Eff.commutes, Eff.spares, okPair, apart, eqAgg, fits, LK.fits, allEq, aveq, eqk, mmA, beqT, wrapI, idxI, tdivI, tmodI, decT, decF, ibT, ibF, inT, inF, evScope_c, if_pos, if_neg, g0, g1, g2, g3, g4]
  exact t

abbrev L13 : List Path := [[false, false, true], [true, false, true], [true, true, true], [false, false, false, false], [false, true, false, false], [false, false, true, false], [true, false, true, false], [false, true, true, false], [true, true, true, false]]
set_option maxRecDepth 100000 in
set_option maxHeartbeats 1000000 in
theorem w13_13 (J : CallF) (K : KnA J) {ba br v1 v2 : Nat} {x11 x12 : AV} {c1 c2 : List AV} {u v p q a b : Int} {y1 y2 y3 : Nat} (H : Heap) (k : Nat) (hk : k < n) (fa : H.get ba = .cells 2 v1 c1) (fb : H.get br = .cells 2 v2 c2) (hZ : 1 ≤ Z ∧ Z ≤ 1099511627776)
    (e1 : (c1.drop (k * 2)).take 2 = [G u, G v]) (e2 : (c2.drop (k * 2)).take 2 = [G p, G q]) (e3 : c1[k * 2]? = some (G u)) (e4 : c1[k * 2 + 1]? = some (G v)) (e5 : c2[k * 2]? = some (G p)) (e6 : c2[k * 2 + 1]? = some (G q)) (F1 : Fq Z a u v) (F2 : Fq Z b p q) :
    Tr tbl J (.seq c13_o13 (.cond (.s [true, true, true, false, false, true, false]) (.seq c13_o14 .ret) .skip)) (fun s h => s.get [false, false, true] = x11 ∧ s.get [true, false, true] = x12 ∧ s.get [true, true, true] = .slice ba 0 n v1 ∧ s.get [false, false, false, false] = .slice br 0 n v2 ∧ s.get [false, true, false, false] = G Z ∧ s.get [false, false, true, false] = G y1 ∧ s.get [true, false, true, false] = G y2 ∧ s.get [false, true, true, false] = G y3 ∧ s.get [true, true, true, false] = G k ∧ h = H) .normal (fun s h => s.get [false, false, true] = x11 ∧ s.get [true, false, true] = x12 ∧ s.get [true, true, true] = .slice ba 0 n v1 ∧ s.get [false, false, false, false] = .slice br 0 n v2 ∧ s.get [false, true, false, false] = G Z ∧ s.get [false, false, true, false] = G y1 ∧ s.get [true, false, true, false] = G y2 ∧ s.get [false, true, true, false] = G y3 ∧ s.get [true, true, true, false] = G k ∧ h = H) := by
  obtain ⟨w1, w2, w3, w4, w5⟩ := F1
  obtain ⟨w1', w2', w3', w4', w5'⟩ := F2
  have z1 := w1
  have z2 := w1'
  obtain ⟨i1, i2, i3⟩ := z1
  obtain ⟨i4, i5, i6⟩ := z2
  have e3' : ∀ h : k * 2 < c1.length, c1[k * 2] = G u := fun h => by rw [List.getElem?_eq_getElem h] at e3; exact Option.some.inj e3
  have e4' : ∀ h : k * 2 + 1 < c1.length, c1[k * 2 + 1] = G v := fun h => by rw [List.getElem?_eq_getElem h] at e4; exact Option.some.inj e4
  have e5' : ∀ h : k * 2 < c2.length, c2[k * 2] = G p := fun h => by rw [List.getElem?_eq_getElem h] at e5; exact Option.some.inj e5
  have e6' : ∀ h : k * 2 + 1 < c2.length, c2[k * 2 + 1] = G q := fun h => by rw [List.getElem?_eq_getElem h] at e6; exact Option.some.inj e6
  clear w4 w4' w5 w5'
  have t : Tr tbl J ((.seq c13_o13 (.cond (.s [true, true, true, false, false, true, false]) (.seq c13_o14 .ret) .skip))) (fun s h => s.get [false, false, true] = x11 ∧ s.get [true, false, true] = x12 ∧ s.get [true, true, true] = .slice ba 0 n v1 ∧ s.get [false, false, false, false] = .slice br 0 n v2 ∧ s.get [false, true, false, false] = G Z ∧ s.get [false, false, true, false] = G y1 ∧ s.get [true, false, true, false] = G y2 ∧ s.get [false, true, true, false] = G y3 ∧ s.get [true, true, true, false] = G k ∧ h = H) .normal (fun s h => s.get [false, false, true] = x11 ∧ s.get [true, false, true] = x12 ∧ s.get [true, true, true] = .slice ba 0 n v1 ∧ s.get [false, false, false, false] = .slice br 0 n v2 ∧ s.get [false, true, false, false] = G Z ∧ s.get [false, false, true, false] = G y1 ∧ s.get [true, false, true, false] = G y2 ∧ s.get [false, true, true, false] = G y3 ∧ s.get [true, true, true, false] = G k ∧ h = H) := Tr.region fun s h hp => by
    obtain ⟨g0, g1, g2, g3, g4, g5, g6, g7, g8, rfl⟩ := hp
    simp (disch := first | omega | exact getEq rfl | exact getO0 | exact Nat.le_of_ble_eq_true rfl) [-evDraw_c, c13_o13, came_some, goI, List.getElem?_cons_zero, List.getElem?_cons_succ, kn, keep, app_growP, app_noneP, plus_N, plus_at0, put_plus0, upd_N, upd_size, putAt, AV.cells, fillA, loadA, takeA, mk, Eff.isAll, Eff.isNone, Eff.commutes, Eff.spares, okPair, apart, eqAgg, fits, LK.fits, allEq, aveq, eqk, mmA, beqT, wrapI, idxI, tdivI, tmodI, decT, decF, ibT, ibF, inT, inF, evScope_c, if_pos, if_neg, g0, g1, g2, g3, g4, g5, g6, g7, g8, evDraw_0, fa, fb, e1, e2, e3, e4, e5, e6, e3', e4', e5', e6', K.k26, w1, w1', w2, w2']
  exact t
set_option maxRecDepth 100000 in
set_option maxHeartbeats 1000000 in
theorem w13_15 (J : CallF) {ba br v1 v2 : Nat} {x11 x12 : AV} {c1 c2 : List AV} {u v p q : Int} {a b y1 y2 y3 : Nat} (H : Heap) (k : Nat) (hk : k < n) (fa : H.get ba = .cells 2 v1 c1) (fb : H.get br = .cells 2 v2 c2) (hZ : 1 ≤ Z ∧ Z ≤ 1099511627776)
    (e3 : c1[k * 2]? = some (G u)) (e4 : c1[k * 2 + 1]? = some (G v)) (e5 : c2[k * 2]? = some (G p)) (e6 : c2[k * 2 + 1]? = some (G q)) (F1 : Fq Z a u v) (F2 : Fq Z b p q) (ha : a ≤ 1099511627776) (hb : b ≤ 1099511627776) :
    Tr tbl J c13_o15 (fun s h => s.get [false, false, true] = x11 ∧ s.get [true, false, true] = x12 ∧ s.get [true, true, true] = .slice ba 0 n v1 ∧ s.get [false, false, false, false] = .slice br 0 n v2 ∧ s.get [false, true, false, false] = G Z ∧ s.get [false, false, true, false] = G y1 ∧ s.get [true, false, true, false] = G y2 ∧ s.get [false, true, true, false] = G y3 ∧ s.get [true, true, true, false] = G k ∧ h = H) .normal (fun s h => s.get [false, false, true] = x11 ∧ s.get [true, false, true] = x12 ∧ s.get [true, true, true] = .slice ba 0 n v1 ∧ s.get [false, false, false, false] = .slice br 0 n v2 ∧ s.get [false, true, false, false] = G Z ∧ s.get [false, false, true, false] = G y1 ∧ s.get [true, false, true, false] = G y2 ∧ s.get [false, true, true, false] = G y3 ∧ s.get [true, true, true, false] = G k ∧ s.get [false, false, false, true] = G a ∧ s.get [true, false, false, true] = G b ∧ h = H) := by
  obtain ⟨w1, w2, w3, w4, w5⟩ := F1
  obtain ⟨w1', w2', w3', w4', w5'⟩ := F2
  obtain ⟨i1, i2, i3⟩ := w1
  obtain ⟨i4, i5, i6⟩ := w1'
  have e3' : ∀ h : k * 2 < c1.length, c1[k * 2] = G u := fun h => by rw [List.getElem?_eq_getElem h] at e3; exact Option.some.inj e3
  have e4' : ∀ h : k * 2 + 1 < c1.length, c1[k * 2 + 1] = G v := fun h => by rw [List.getElem?_eq_getElem h] at e4; exact Option.some.inj e4
  have e5' : ∀ h : k * 2 < c2.length, c2[k * 2] = G p := fun h => by rw [List.getElem?_eq_getElem h] at e5; exact Option.some.inj e5
  have e6' : ∀ h : k * 2 + 1 < c2.length, c2[k * 2 + 1] = G q := fun h => by rw [List.getElem?_eq_getElem h] at e6; exact Option.some.inj e6
  clear w2 w2' w3 w3' i3 i6
  have t : Tr tbl J (c13_o15) (fun s h => s.get [false, false, true] = x11 ∧ s.get [true, false, true] = x12 ∧ s.get [true, true, true] = .slice ba 0 n v1 ∧ s.get [false, false, false, false] = .slice br 0 n v2 ∧ s.get [false, true, false, false] = G Z ∧ s.get [false, false, true, false] = G y1 ∧ s.get [true, false, true, false] = G y2 ∧ s.get [false, true, true, false] = G y3 ∧ s.get [true, true, true, false] = G k ∧ h = H) .normal (fun s h => s.get [false, false, true] = x11 ∧ s.get [true, false, true] = x12 ∧ s.get [true, true, true] = .slice ba 0 n v1 ∧ s.get [false, false, false, false] = .slice br 0 n v2 ∧ s.get [false, true, false, false] = G Z ∧ s.get [false, false, true, false] = G y1 ∧ s.get [true, false, true, false] = G y2 ∧ s.get [false, true, true, false] = G y3 ∧ s.get [true, true, true, false] = G k ∧ s.get [false, false, false, true] = G a ∧ s.get [true, false, false, true] = G b ∧ h = H) := Tr.region fun s h hp => by
    obtain ⟨g0, g1, g2, g3, g4, g5, g6, g7, g8, rfl⟩ := hp
    simp (disch := first | omega | exact getEq rfl | exact getO0 | exact Nat.le_of_ble_eq_true rfl) [-evDraw_c, c13_o15, came_some, goI, List.getElem?_cons_zero, List.getElem?_cons_succ, kn, keep, app_growP, app_noneP, plus_N, plus_at0, put_plus0, upd_N, upd_size, putAt, AV.cells, fillA, loadA, takeA, mk, Eff.isAll, Eff.isNone, Eff.commutes, Eff.spares, okPair, apart, eqAgg, fits, LK.fits, allEq, aveq, eqk, mmA, beqT, wrapI, idxI, tdivI, tmodI, decT, decF, ibT, ibF, inT, inF, evScope_c, if_pos, if_neg, g0, g1, g2, g3, g4, g5, g6, g7, g8, evDraw_0, fa, fb, e3, e4, e5, e6, e3', e4', e5', e6', w4, w4']
  exact t
theorem w13_16 (J : CallF) {x11 x12 x14 x15 x17 : AV} {a b y1 y2 y3 : Nat} (H : Heap) (k : Nat) (hk : k < 36) (h1 : y1 ≤ 1000000000000000) (h2 : y2 ≤ 1000000000000000) (h3 : y3 ≤ 1000000000000000) (ha : a + b ≤ 1099511627776) :
    Tr tbl J (.seq c13_o16 (.seq c13_o17 c13_o18)) (fun s h => s.get [false, false, true] = x11 ∧ s.get [true, false, true] = x12 ∧ s.get [true, true, true] = x14 ∧ s.get [false, false, false, false] = x15 ∧ s.get [false, true, false, false] = x17 ∧ s.get [false, false, true, false] = G y1 ∧ s.get [true, false, true, false] = G y2 ∧ s.get [false, true, true, false] = G y3 ∧ s.get [true, true, true, false] = G k ∧ s.get [false, false, false, true] = G a ∧ s.get [true, false, false, true] = G b ∧ h = H) .normal (fun s h => s.get [false, false, true] = x11 ∧ s.get [true, false, true] = x12 ∧ s.get [true, true, true] = x14 ∧ s.get [false, false, false, false] = x15 ∧ s.get [false, true, false, false] = x17 ∧ s.get [false, false, true, false] = G ((y1 + a : Nat) : Int) ∧ s.get [true, false, true, false] = G ((y2 + (a + b) : Nat) : Int) ∧ s.get [false, true, true, false] = G ((y3 + (k + 1) * (a + b) : Nat) : Int) ∧ s.get [true, true, true, false] = G k ∧ h = H) := by
  obtain ⟨m1, m2⟩ := mul_bd (x := (k : Int) + 1) (y := (a : Int) + b) (X := 36) (Y := 1099511627776) (by omega) (by omega) (by omega) (by omega)
  have e1 : ((y1 + a : Nat) : Int) = y1 + a := by omega
  have e2 : ((y2 + (a + b) : Nat) : Int) = y2 + a + b := by omega
  have e3 : ((y3 + (k + 1) * (a + b) : Nat) : Int) = y3 + ((k : Int) + 1) * (a + b) := by simp
  rw [e1, e2, e3]
  have t : Tr tbl J ((.seq c13_o16 (.seq c13_o17 c13_o18))) (fun s h => s.get [false, false, true] = x11 ∧ s.get [true, false, true] = x12 ∧ s.get [true, true, true] = x14 ∧ s.get [false, false, false, false] = x15 ∧ s.get [false, true, false, false] = x17 ∧ s.get [false, false, true, false] = G y1 ∧ s.get [true, false, true, false] = G y2 ∧ s.get [false, true, true, false] = G y3 ∧ s.get [true, true, true, false] = G k ∧ s.get [false, false, false, true] = G a ∧ s.get [true, false, false, true] = G b ∧ h = H) .normal (fun s h => s.get [false, false, true] = x11 ∧ s.get [true, false, true] = x12 ∧ s.get [true, true, true] = x14 ∧ s.get [false, false, false, false] = x15 ∧ s.get [false, true, false, false] = x17 ∧ s.get [false, false, true, false] = G ((y1 : Int) + a) ∧ s.get [true, false, true, false] = G ((y2 : Int) + a + b) ∧ s.get [false, true, true, false] = G ((y3 : Int) + ((k : Int) + 1) * (a + b)) ∧ s.get [true, true, true, false] = G k ∧ h = H) := Tr.region fun s h hp => by
    obtain ⟨g0, g1, g2, g3, g4, g5, g6, g7, g8, g9, g10, rfl⟩ := hp
    simp (disch := first | omega | exact getEq rfl | exact getO0 | exact Nat.le_of_ble_eq_true rfl) [c13_o16, c13_o17, c13_o18, came_some, goI, List.getElem?_cons_zero, List.getElem?_cons_succ, kn, keep, app_growP, app_noneP, plus_N, plus_at0, put_plus0, upd_N, upd_size, putAt, AV.cells, fillA, loadA, takeA, mk, Eff.isAll, Eff.isNone, Eff.commutes, Eff.spares, okPair, apart, eqAgg, fits, LK.fits, allEq, aveq, eqk, mmA, beqT, wrapI, idxI, tdivI, tmodI, decT, decF, ibT, ibF, inT, inF, evScope_c, if_pos, if_neg, g0, g1, g2, g3, g4, g5, g6, g7, g8, g9, g10]
  exact t
theorem w13_loop (J : CallF) (K : KnA J) {ba br : Nat} {x11 x12 : AV} {A R : Nat → Int} (H : Heap) (g : H4 lot bad n) (hZ' : ofZ lot bad = Z) (fa : H.get ba = .cells 2 (2 * n) (fz (yU lot bad A R) (yV lot bad A R) n)) (fb : H.get br = .cells 2 (2 * n) (fz (nU lot bad A R) (nV lot bad A R) n)) :
    Tr tbl J (.seq c13_o11 (.block 0 c13_l0)) (fun s h => s.get [false, false, true] = x11 ∧ s.get [true, false, true] = x12 ∧ s.get [true, true, true] = .slice ba 0 n (2 * n) ∧ s.get [false, false, false, false] = .slice br 0 n (2 * n) ∧ s.get [false, true, false, false] = G Z ∧ s.get [false, false, true, false] = G ((yT lot bad A R 0 : Nat) : Int) ∧ s.get [true, false, true, false] = G ((tT lot bad A R 0 : Nat) : Int) ∧ s.get [false, true, true, false] = G ((pT lot bad A R 0 : Nat) : Int) ∧ h = H) .normal
      (fun s h => s.get [false, false, true] = x11 ∧ s.get [true, false, true] = x12 ∧ s.get [false, true, false, false] = G Z ∧ s.get [false, false, true, false] = G ((yT lot bad A R n : Nat) : Int) ∧ s.get [true, false, true, false] = G ((tT lot bad A R n : Nat) : Int) ∧ s.get [false, true, true, false] = G ((pT lot bad A R n : Nat) : Int) ∧ h = H) := by
  have n2 := g.n2
  have l2 := g.l2
  have b1 := g.b1
  have b2 := g.b2
  have z3 := ofZ_36 (lot := lot) (bad := bad) l2
  have z4 := ofZ_pos (n := lot) (k := bad) b1 b2
  rw [hZ'] at z3 z4
  have hZ : 1 ≤ Z ∧ Z ≤ 1099511627776 := by omega
  have t0 : Tr tbl J (c13_o11) (fun s h => s.get [false, false, true] = x11 ∧ s.get [true, false, true] = x12 ∧ s.get [true, true, true] = .slice ba 0 n (2 * n) ∧ s.get [false, false, false, false] = .slice br 0 n (2 * n) ∧ s.get [false, true, false, false] = G Z ∧ s.get [false, false, true, false] = G ((yT lot bad A R 0 : Nat) : Int) ∧ s.get [true, false, true, false] = G ((tT lot bad A R 0 : Nat) : Int) ∧ s.get [false, true, true, false] = G ((pT lot bad A R 0 : Nat) : Int) ∧ h = H) .normal (fun s h => s.get [false, false, true] = x11 ∧ s.get [true, false, true] = x12 ∧ s.get [true, true, true] = .slice ba 0 n (2 * n) ∧ s.get [false, false, false, false] = .slice br 0 n (2 * n) ∧ s.get [false, true, false, false] = G Z ∧ s.get [false, false, true, false] = G ((yT lot bad A R 0 : Nat) : Int) ∧ s.get [true, false, true, false] = G ((tT lot bad A R 0 : Nat) : Int) ∧ s.get [false, true, true, false] = G ((pT lot bad A R 0 : Nat) : Int) ∧ s.get [true, true, true, false] = G ((0 : Nat) : Int) ∧ h = H) := Tr.region fun s h hp => by
    obtain ⟨g0, g1, g2, g3, g4, g5, g6, g7, rfl⟩ := hp
    simp (disch := first | omega | exact getEq rfl | exact getO0 | exact Nat.le_of_ble_eq_true rfl) [c13_o11, came_some, goI, List.getElem?_cons_zero, List.getElem?_cons_succ, kn, keep, app_growP, app_noneP, plus_N, plus_at0, put_plus0, upd_N, upd_size, putAt, AV.cells, fillA, loadA, takeA, mk, Eff.isAll, Eff.isNone, Eff.commutes, Eff.spares, okPair, apart, eqAgg, fits, LK.fits, allEq, aveq, eqk, mmA, beqT, wrapI, idxI, tdivI, tmodI, decT, decF, ibT, ibF, inT, inF, evScope_c, if_pos, if_neg, g0, g1, g2, g3, g4, g5, g6, g7]
  generalize hy : yT lot bad A R n = yn
  generalize ht : tT lot bad A R n = tn
  generalize hp : pT lot bad A R n = pn
  have t1 : Tr tbl J ((.trim L13 c13_b0)) (fun s h => s.get [false, false, true] = x11 ∧ s.get [true, false, true] = x12 ∧ s.get [true, true, true] = .slice ba 0 n (2 * n) ∧ s.get [false, false, false, false] = .slice br 0 n (2 * n) ∧ s.get [false, true, false, false] = G Z ∧ s.get [false, false, true, false] = G yn ∧ s.get [true, false, true, false] = G tn ∧ s.get [false, true, true, false] = G pn ∧ s.get [true, true, true, false] = G n ∧ h = H) (.exit 0) (fun s h => s.get [false, false, true] = x11 ∧ s.get [true, false, true] = x12 ∧ s.get [false, true, false, false] = G Z ∧ s.get [false, false, true, false] = G yn ∧ s.get [true, false, true, false] = G tn ∧ s.get [false, true, true, false] = G pn ∧ h = H) := Tr.region fun s h hp => by
    obtain ⟨g0, g1, g2, g3, g4, g5, g6, g7, g8, rfl⟩ := hp
    simp (disch := first | omega | exact getEq rfl | exact getO0 | exact Nat.le_of_ble_eq_true rfl) [c13_b0, c13_o12, came_some, goI, List.getElem?_cons_zero, List.getElem?_cons_succ, kn, keep, app_growP, app_noneP, plus_N, plus_at0, put_plus0, upd_N, upd_size, putAt, AV.cells, fillA, loadA, takeA, mk, Eff.isAll, Eff.isNone, Eff.commutes, Eff.spares, okPair, apart, eqAgg, fits, LK.fits, allEq, aveq, eqk, mmA, beqT, wrapI, idxI, tdivI, tmodI, decT, decF, ibT, ibF, inT, inF, evScope_c, if_pos, if_neg, g0, g1, g2, g3, g4, g5, g6, g7, g8]
  refine Tr.seq t0 (Tr.block (Tr.rounds (P := fun j => (fun s h => s.get [false, false, true] = x11 ∧ s.get [true, false, true] = x12 ∧ s.get [true, true, true] = .slice ba 0 n (2 * n) ∧ s.get [false, false, false, false] = .slice br 0 n (2 * n) ∧ s.get [false, true, false, false] = G Z ∧ s.get [false, false, true, false] = G ((yT lot bad A R j : Nat) : Int) ∧ s.get [true, false, true, false] = G ((tT lot bad A R j : Nat) : Int) ∧ s.get [false, true, true, false] = G ((pT lot bad A R j : Nat) : Int) ∧ s.get [true, true, true, false] = G j ∧ h = H)) (M := n) (fun j hj => ?_) (by rw [hy, ht, hp]; exact t1) (by simp) 0 (by omega)))
  clear t0 t1 hy ht hp
  have k6 := yn_all (lot := lot) (bad := bad) (A := A) (R := R) j (j + 2) (by omega) b1 b2
  have k7 : yC lot bad A R j + nC lot bad A R j ≤ Z := by rw [← hZ']; exact k6
  have F1 : Fq Z (yC lot bad A R j) (yU lot bad A R j) (yV lot bad A R j) := by
    have := fq_ok (Z := Z) (y := yC lot bad A R j) (by omega) (by omega) (by omega) (by omega)
    rw [← hZ'] at this ⊢; exact this
  have F2 : Fq Z (nC lot bad A R j) (nU lot bad A R j) (nV lot bad A R j) := by
    have := fq_ok (Z := Z) (y := nC lot bad A R j) (by omega) (by omega) (by omega) (by omega)
    rw [← hZ'] at this ⊢; exact this
  have k1 := yT_le (lot := lot) (bad := bad) (A := A) (R := R) b1 b2 j (by omega)
  have k2 := pT_le (lot := lot) (bad := bad) (A := A) (R := R) b1 b2 l2 j (by omega)
  have k0 := mass (A := A) (R := R) (bad := bad) n n2 j (by omega)
  rw [hZ'] at k0 k1 k2
  have k3 := Nat.mul_le_mul (show j ≤ 36 by omega) z3
  have k4 := Nat.mul_le_mul (show j ≤ 36 by omega) (Nat.mul_le_mul_left 36 z3)
  have q1 := fz_at (yU lot bad A R) (yV lot bad A R) n j hj
  have q2 := fz_at (nU lot bad A R) (nV lot bad A R) n j hj
  have q3 := fz_0 (yU lot bad A R) (yV lot bad A R) n j hj
  have q4 := fz_1 (yU lot bad A R) (yV lot bad A R) n j hj
  have q5 := fz_0 (nU lot bad A R) (nV lot bad A R) n j hj
  have q6 := fz_1 (nU lot bad A R) (nV lot bad A R) n j hj
  have x1 : yT lot bad A R (j + 1) = yT lot bad A R j + yC lot bad A R j := rfl
  have x2 : tT lot bad A R (j + 1) = tT lot bad A R j + (yC lot bad A R j + nC lot bad A R j) := rfl
  have x3 : pT lot bad A R (j + 1) = pT lot bad A R j + (j + 1) * (yC lot bad A R j + nC lot bad A R j) := rfl
  rw [x1, x2, x3]
  generalize yT lot bad A R j = y1 at *
  generalize tT lot bad A R j = y2 at *
  generalize pT lot bad A R j = y3 at *
  have hy2 : y2 ≤ Z := by omega
  clear k0 k6
  have tb := Tr.seq (w13_13 (y1 := y1) (y2 := y2) (y3 := y3) (x11 := x11) (x12 := x12) J K H j hj fa fb hZ q1 q2 q3 q4 q5 q6 F1 F2) (Tr.seq (w13_15 J H j hj fa fb hZ q3 q4 q5 q6 F1 F2 (by omega) (by omega)) (w13_16 J H j (by omega) (by omega) (by omega) (by omega) (by omega)))
  clear F1 F2 q1 q2 q3 q4 q5 q6
  generalize y1 + yC lot bad A R j = w1 at *
  generalize y2 + (yC lot bad A R j + nC lot bad A R j) = w2 at *
  generalize y3 + (j + 1) * (yC lot bad A R j + nC lot bad A R j) = w3 at *
  have ta : Tr tbl J ((.trim L13 (.seq c13_o12 (.cond (.s [true, false, false, true, false, true]) .skip (.exit 0))))) (fun s h => s.get [false, false, true] = x11 ∧ s.get [true, false, true] = x12 ∧ s.get [true, true, true] = .slice ba 0 n (2 * n) ∧ s.get [false, false, false, false] = .slice br 0 n (2 * n) ∧ s.get [false, true, false, false] = G Z ∧ s.get [false, false, true, false] = G y1 ∧ s.get [true, false, true, false] = G y2 ∧ s.get [false, true, true, false] = G y3 ∧ s.get [true, true, true, false] = G j ∧ h = H) .normal (fun s h => s.get [false, false, true] = x11 ∧ s.get [true, false, true] = x12 ∧ s.get [true, true, true] = .slice ba 0 n (2 * n) ∧ s.get [false, false, false, false] = .slice br 0 n (2 * n) ∧ s.get [false, true, false, false] = G Z ∧ s.get [false, false, true, false] = G y1 ∧ s.get [true, false, true, false] = G y2 ∧ s.get [false, true, true, false] = G y3 ∧ s.get [true, true, true, false] = G j ∧ h = H) := Tr.region fun s h hp => by
    obtain ⟨g0, g1, g2, g3, g4, g5, g6, g7, g8, rfl⟩ := hp
    simp (disch := first | omega | exact getEq rfl | exact getO0 | exact Nat.le_of_ble_eq_true rfl) [c13_o12, came_some, goI, List.getElem?_cons_zero, List.getElem?_cons_succ, kn, keep, app_growP, app_noneP, plus_N, plus_at0, put_plus0, upd_N, upd_size, putAt, AV.cells, fillA, loadA, takeA, mk, Eff.isAll, Eff.isNone, Eff.commutes, Eff.spares, okPair, apart, eqAgg, fits, LK.fits, allEq, aveq, eqk, mmA, beqT, wrapI, idxI, tdivI, tmodI, decT, decF, ibT, ibF, inT, inF, evScope_c, if_pos, if_neg, g0, g1, g2, g3, g4, g5, g6, g7, g8]
  have te : Tr tbl J (c13_o19) (fun s h => s.get [false, false, true] = x11 ∧ s.get [true, false, true] = x12 ∧ s.get [true, true, true] = .slice ba 0 n (2 * n) ∧ s.get [false, false, false, false] = .slice br 0 n (2 * n) ∧ s.get [false, true, false, false] = G Z ∧ s.get [false, false, true, false] = G w1 ∧ s.get [true, false, true, false] = G w2 ∧ s.get [false, true, true, false] = G w3 ∧ s.get [true, true, true, false] = G j ∧ h = H) .normal (fun s h => s.get [false, false, true] = x11 ∧ s.get [true, false, true] = x12 ∧ s.get [true, true, true] = .slice ba 0 n (2 * n) ∧ s.get [false, false, false, false] = .slice br 0 n (2 * n) ∧ s.get [false, true, false, false] = G Z ∧ s.get [false, false, true, false] = G w1 ∧ s.get [true, false, true, false] = G w2 ∧ s.get [false, true, true, false] = G w3 ∧ s.get [true, true, true, false] = G ((j + 1 : Nat) : Int) ∧ h = H) := Tr.region fun s h hp => by
    obtain ⟨g0, g1, g2, g3, g4, g5, g6, g7, g8, rfl⟩ := hp
    simp (disch := first | omega | exact getEq rfl | exact getO0 | exact Nat.le_of_ble_eq_true rfl) [c13_o19, came_some, goI, List.getElem?_cons_zero, List.getElem?_cons_succ, kn, keep, app_growP, app_noneP, plus_N, plus_at0, put_plus0, upd_N, upd_size, putAt, AV.cells, fillA, loadA, takeA, mk, Eff.isAll, Eff.isNone, Eff.commutes, Eff.spares, okPair, apart, eqAgg, fits, LK.fits, allEq, aveq, eqk, mmA, beqT, wrapI, idxI, tdivI, tmodI, decT, decF, ibT, ibF, inT, inF, evScope_c, if_pos, if_neg, g0, g1, g2, g3, g4, g5, g6, g7, g8]
  exact Tr.trim_seq ta (Tr.seq (Tr.block_out tb (by simp)) te)
theorem w13_20 (J : CallF) (K : KnA J) {b11 b12 y w : Nat} {u v p q : Int} (H : Heap) (f11 : H.get b11 = .cells 0 2 [G u, G v]) (f12 : H.get b12 = .cells 0 2 [G p, G q]) (hZ : 1 ≤ Z ∧ Z ≤ 1099511627776) (hy : y ≤ 1000000000000000) (hw : w ≤ 1000000000000000) (e1 : fr y Z = .agg [G u, G v]) (e2 : fr w Z = .agg [G p, G q]) :
    Tr tbl J (.seq c13_o20 .ret) (fun s h => s.get [false, false, true] = .ptr b11 0 2 ∧ s.get [true, false, true] = .ptr b12 0 2 ∧ s.get [false, true, false, false] = G Z ∧ s.get [false, false, true, false] = G y ∧ s.get [true, false, true, false] = G Z ∧ s.get [false, true, true, false] = G w ∧ h = H) .ret (fun s h => s.get [true, true] = .bool true) := by
  have t : Tr tbl J ((.seq c13_o20 .ret)) (fun s h => s.get [false, false, true] = .ptr b11 0 2 ∧ s.get [true, false, true] = .ptr b12 0 2 ∧ s.get [false, true, false, false] = G Z ∧ s.get [false, false, true, false] = G y ∧ s.get [true, false, true, false] = G Z ∧ s.get [false, true, true, false] = G w ∧ h = H) .ret (fun s h => s.get [true, true] = .bool true) := Tr.region fun s h hp => by
    obtain ⟨g0, g1, g2, g3, g4, g5, rfl⟩ := hp
    simp (disch := first | omega | exact getEq rfl | exact getO0 | exact Nat.le_of_ble_eq_true rfl) [-evDraw_c, c13_o20, came_some, goI, List.getElem?_cons_zero, List.getElem?_cons_succ, kn, keep, app_growP, app_noneP, plus_N, plus_at0, put_plus0, upd_N, upd_size, putAt, AV.cells, fillA, loadA, takeA, mk, Eff.isAll, Eff.isNone, Eff.commutes, Eff.spares, okPair, apart, eqAgg, fits, LK.fits, allEq, aveq, eqk, mmA, beqT, wrapI, idxI, tdivI, tmodI, decT, decF, ibT, ibF, inT, inF, evScope_c, if_pos, if_neg, g0, g1, g2, g3, g4, g5, evDraw_0, f11, f12, K.k25, e1, e2, K.k20]
  exact t
end

theorem adds_law (J : CallF) (K : KnA J) (hJ : ∀ a h, J 13 a h = none) (h : Heap) (x0 x1 : Int) {x y : AV} {A R : List Int} (hx : LR h x A) (hy : LR h y R) : CallsTo tbl J 13 [.agg [G x0, G x1], x, y] h (.bool true, [], false) := by
  have hl := lotZ_in x0
  obtain ⟨lot, e1⟩ : ∃ lot, lotZ x0 = lot := ⟨_, rfl⟩
  rw [e1] at hl
  have m1 := mdZ_lo x1 (show 0 < lot + 1 by omega)
  have m2 := mdZ_hi x1 (show 0 < lot + 1 by omega)
  obtain ⟨bad, e4⟩ : ∃ bad, mdZ x1 (lot + 1) = bad := ⟨_, rfl⟩
  rw [e4] at m1 m2
  refine Tr.fnv (cf := c13) (e := .ret) (s := T.set (T.set (T.set .leaf [] (.agg [G x0, G x1])) [false] x) [true] y) (by decide) rfl (hJ _ _) rfl rfl rfl (by simp) ?_
  refine Tr.post (Q := (fun s h => s.get [true, true] = .bool true)) (fun s h q => by simp [c13, q]) (Tr.app3 (w13_1 J K h e1 e4 hl) ?_)
  have hx1 := hx.lo [.cells 0 2 [G x0, G x1]]
  have hy1 := hy.lo [.cells 0 2 [G x0, G x1]]
  generalize (⟨h.get, h.size, [.cells 0 2 [G x0, G x1]]⟩ : Heap) = H1 at *
  obtain ⟨xa, xr, own, La, Lr, q1, q2, q3, q4, q5⟩ := K.k43 H1 lot x y A R hx1 hy1 hl
  have hn1 := q4.1
  have hn2 := q4.2.1
  have hsa : ∃ q0 m0, xa = .slice q0 0 La.length m0 := by
    rcases listOf_some q2 with ⟨rfl, e⟩ | ⟨b, v, rfl, g⟩
    · rw [e] at hn1; simp at hn1
    · exact ⟨b, v, rfl⟩
  have hsr : ∃ q0 m0, xr = .slice q0 0 La.length m0 := by
    rcases listOf_some q3 with ⟨rfl, e⟩ | ⟨b, v, rfl, g⟩
    · rw [e] at hn2; simp at hn2; omega
    · exact ⟨b, v, by rw [hn2]⟩
  have hvv : ∀ {z : AV} {L : List Int}, listOf (H1.plus own) z = some L → ∀ q0 n0 m0, z = .slice q0 0 n0 m0 → True := fun _ _ _ _ _ => trivial
  refine Tr.seq (?_ : Tr tbl J c13_o3 _ .normal (fun s h => s.get [false, false, false] = G lot ∧ s.get [true, false, false] = G bad ∧ s.get [false, true, false] = .ptr (H1.plus own).size 0 2 ∧ h = (H1.plus own).plus [.cells 0 2 [xa, xr]])) ?_
  · obtain ⟨q0, m0, rfl⟩ := hsa
    have t : Tr tbl J (c13_o3) (fun s h => s.get [false] = x ∧ s.get [true] = y ∧ s.get [false, false, false] = G lot ∧ s.get [true, false, false] = G bad ∧ h = H1) .normal (fun s h => s.get [false, false, false] = G lot ∧ s.get [true, false, false] = G bad ∧ s.get [false, true, false] = .ptr (H1.plus own).size 0 2 ∧ h = (H1.plus own).plus [.cells 0 2 [.slice q0 0 La.length m0, xr]]) := Tr.region fun s h hp => by
      obtain ⟨g0, g1, g2, g3, rfl⟩ := hp
      simp (disch := first | omega | exact getEq rfl | exact getO0 | exact Nat.le_of_ble_eq_true rfl) [c13_o3, came_some, goI, List.getElem?_cons_zero, List.getElem?_cons_succ, kn, keep, app_growP, app_noneP, plus_N, plus_at0, put_plus0, upd_N, upd_size, putAt, AV.cells, fillA, loadA, takeA, mk, Eff.isAll, Eff.isNone, Eff.commutes, Eff.spares, okPair, apart, eqAgg, fits, LK.fits, allEq, aveq, eqk, mmA, beqT, wrapI, idxI, tdivI, tmodI, decT, decF, ibT, ibF, inT, inF, evScope_c, if_pos, if_neg, g0, g1, g2, g3, q1, q5]
    exact t
  obtain ⟨H2, s2⟩ : ∃ H, (H1.plus own).plus [.cells 0 2 [xa, xr]] = H := ⟨_, rfl⟩
  have f9 : H2.get (H1.plus own).size = .cells 0 2 [xa, xr] := by rw [← s2]; exact plus_at0 _ _ _ _ rfl
  have la : listOf H2 xa = some La := by rw [← s2]; exact listOf_plus _ q2
  have lr : listOf H2 xr = some Lr := by rw [← s2]; exact listOf_plus _ q3
  rw [s2]
  generalize (H1.plus own).size = b9 at *
  clear s2 q1 q2 q3 hx1 hy1 hvv
  have hlot0 : lotOk lot 0 := ⟨hl, by omega⟩
  have hlot : lotOk lot bad := ⟨hl, by omega⟩
  obtain ⟨n, hn⟩ : ∃ n, La.length = n := ⟨_, rfl⟩
  have g : H4 lot bad n := ⟨by omega, by omega, by omega, by omega, by omega⟩
  have k33 := K.k33 H2 lot xa xr La Lr la lr hlot0 q4
  have k34 := K.k34 H2 lot bad xa xr La Lr la lr hlot q4
  obtain ⟨Z, hZ⟩ : ∃ Z, ofZ lot bad = Z := ⟨_, rfl⟩
  have z3 := ofZ_36 (lot := lot) (bad := bad) g.l2
  have z4 := ofZ_pos (n := lot) (k := bad) g.b1 g.b2
  rw [hn, hZ] at k34
  rw [hZ] at z3 z4
  obtain ⟨u, v, eu⟩ : ∃ u v, fr (yT lot bad (La.getD · 0) (Lr.getD · 0) n) Z = .agg [G u, G v] := ⟨_, _, rfl⟩
  obtain ⟨p, q, ep⟩ : ∃ u v, fr (pT lot bad (La.getD · 0) (Lr.getD · 0) n) Z = .agg [G u, G v] := ⟨_, _, rfl⟩
  rw [eu, ep] at k34
  refine Tr.app2 (w13_4 J H2 f9 k33 k34) ?_
  obtain ⟨H3, s3⟩ : ∃ H, (H2.plus [.cells 0 2 [G u, G v]]).plus [.cells 0 2 [G p, G q]] = H := ⟨_, rfl⟩
  have f11 : H3.get H2.size = .cells 0 2 [G u, G v] := by rw [← s3]; exact plus_keep _ (plus_at0 _ _ _ _ rfl) (by simp)
  have f12 : H3.get (H2.size + 1) = .cells 0 2 [G p, G q] := by rw [← s3]; exact plus_at0 _ _ _ _ (by rw [plus_size]; rfl)
  have f9 : H3.get b9 = .cells 0 2 [xa, xr] := by rw [← s3]; exact plus_keep _ (plus_keep _ f9 (by simp)) (by simp)
  have la : listOf H3 xa = some La := by rw [← s3]; exact listOf_plus _ (listOf_plus _ la)
  have lr : listOf H3 xr = some Lr := by rw [← s3]; exact listOf_plus _ (listOf_plus _ lr)
  rw [s3]
  generalize H2.size = b11 at *
  clear s3
  obtain ⟨v', own', k39, ba, br, rfl, fa, fb, hne⟩ := K.k39 H3 lot bad xa xr La Lr la lr ⟨hlot, q4⟩
  rw [hn] at k39 fa fb
  refine Tr.app2 (w13_6 J K H3 f9 k39 hne hlot hZ) ?_
  have f11 := plus_keep own' f11 (by simp)
  have f12 := plus_keep own' f12 (by simp)
  have f9 := plus_keep own' f9 (by simp)
  generalize H3.plus own' = H4' at *
  obtain ⟨q0, m0, rfl⟩ := hsa
  obtain ⟨q0', m0', rfl⟩ := hsr
  rw [hn] at f9
  refine Tr.seq (w13_8 J H4' f9 (by omega)) (Tr.seq (w13_10 J H4') ?_)
  have hm := mass_all (A := (La.getD · 0)) (R := (Lr.getD · 0)) (bad := bad) (lot := lot) n g.n1 g.n2 (by
    have := q4.2.2.2
    rw [hn] at this
    show Lr.getD (n - 1) 0 ≤ La.getD (n - 1) 0 + 1
    omega)
  rw [hZ] at hm
  have tl := w13_loop J K (x11 := .ptr b11 0 2) (x12 := .ptr (b11 + 1) 0 2) H4' g hZ fa fb
  rw [hm] at tl
  have k1 := yT_le (lot := lot) (bad := bad) (A := (La.getD · 0)) (R := (Lr.getD · 0)) g.b1 g.b2 n g.n2
  have k2 := pT_le (lot := lot) (bad := bad) (A := (La.getD · 0)) (R := (Lr.getD · 0)) g.b1 g.b2 g.l2 n g.n2
  rw [hZ] at k1 k2
  have n36 : n ≤ 36 := by omega
  have k4 := Nat.mul_le_mul n36 z3
  have k5 := Nat.mul_le_mul n36 (Nat.mul_le_mul_left 36 z3)
  exact Tr.seq tl (w13_20 J K H4' f11 f12 (by omega) (by omega) (by omega) eu ep)

theorem adds_ok (h : Heap) (x0 x1 : Int) {x y : AV} {A R : List Int} (hx : LR h x A) (hy : LR h y R) : CallsTo tbl D10 13 [.agg [G x0, G x1], x, y] h (.bool true, [], false) := adds_law D10 knA10 (fun _ _ => rfl) h x0 x1 hx hy

end Go.Proofs.Ytlkgpcfhpeilhaa.Ev
