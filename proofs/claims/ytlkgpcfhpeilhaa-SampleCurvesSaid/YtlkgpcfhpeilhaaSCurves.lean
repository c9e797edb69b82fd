/-
  SampleCurves answers true at any three integers, as the evaluator runs it. No condition.
-/
import Derived.Test.YtlkgpcfhpeilhaaSCurt
set_option linter.unusedVariables false
set_option linter.unusedSimpArgs false
namespace Go.Proofs.Ytlkgpcfhpeilhaa.Ev
open Go Go.AEv

attribute [local simp] evFunc initS evOps_c evTrim_c evSkip_c evExit_c evRet_c evSeq_c evCond_c evBlock_c evDraw_c runOps_n runOps_c exec_n exec_g pure1_c act AOpd.ev T.get T.set T.put evBin evUn forceT_eq forceV_eq forceL_eq evRess evRes one keep runFP_n runFP_c app_none AV.flats AV.flat

section
variable {lot c : Int} {n a : Nat} {u v : Int} {vv b9 b12 b13 b14 b15 : Nat} {cs : List AV}
abbrev S14 (lot c : Int) (n : Nat) : T := T.set (T.set (T.set .leaf [] (G lot)) [false] (G n)) [true] (G c)
abbrev X14 (S n : Nat) : AObj := .cells 0 2 [.slice (S + 5) 0 n n, .slice (S + 2) 0 n n]
abbrev Y14 (S n : Nat) : AObj := .cells 0 2 [.slice (S + 3) 0 n n, .slice (S + 5) 0 n n]

theorem v14_1 (J : CallF) (K : Kn6 J) (hl : 1 ≤ lot ∧ lot ≤ 36) (hn : 1 ≤ n ∧ (n : Int) ≤ lot) (hc : 0 ≤ c ∧ c < n) : Tr tbl J (.seq c14_o0 c14_o1) (fun s h => s = S14 lot c n ∧ h = ⟨e0.get, 0, []⟩) .normal (fun s h => s.get [] = G lot ∧ s.get [false] = G n ∧ s.get [true] = G c ∧ s.get [false, false, false] = .slice 2 0 (lot.toNat + 1) (2 * (lot.toNat + 1)) ∧ s.get [true, false, false] = G 0 ∧ h = ⟨e0.get, 0, ownC (cU lot n c) (cV lot n c) lot.toNat⟩) := by
  have t : Tr tbl J ((.seq c14_o0 c14_o1)) (fun s h => s = S14 lot c n ∧ h = ⟨e0.get, 0, []⟩) .normal (fun s h => s.get [] = G lot ∧ s.get [false] = G n ∧ s.get [true] = G c ∧ s.get [false, false, false] = .slice 2 0 (lot.toNat + 1) (2 * (lot.toNat + 1)) ∧ s.get [true, false, false] = G 0 ∧ h = ⟨e0.get, 0, ownC (cU lot n c) (cV lot n c) lot.toNat⟩) := Tr.region fun s h hp => by
    obtain ⟨rfl, rfl⟩ := hp
    have hne : ∀ U V j, ownC U V j ≠ [] := fun U V j => by simp [ownC]
    simp (disch := first | omega | exact getEq rfl | exact getO0 | exact Nat.le_of_ble_eq_true rfl) [c14_o0, c14_o1, S14, came_some, goI, List.getElem?_cons_zero, List.getElem?_cons_succ, kn, keep, frameOf, Heap.size, Heap.get, Eff.app, Heap.setOwn, putAt, AV.cells, fillA, loadA, takeA, mk, Eff.isAll, Eff.isNone, Eff.commutes, Eff.spares, okPair, apart, eqAgg, fits, LK.fits, allEq, aveq, eqk, mmA, beqT, wrapI, idxI, tdivI, tmodI, decT, decF, ibT, ibF, inT, inF, evScope_c, if_pos, if_neg, K.k35, hne]
  exact t

theorem v14_2 (J : CallF) (K : Kn6 J) (hl : 1 ≤ lot ∧ lot ≤ 36) (hn : 1 ≤ n ∧ (n : Int) ≤ lot) (hc : 0 ≤ c ∧ c < n) (hB : leftB lot n c = ⟨u, v, a⟩) (x7 : AV) (H : Heap) : Tr tbl J c14_o2 (fun s h => s.get [] = G lot ∧ s.get [false] = G n ∧ s.get [true] = G c ∧ s.get [false, false, false] = x7 ∧ s.get [true, false, false] = G 0 ∧ h = H) .normal (fun s h => s.get [] = G lot ∧ s.get [false] = G n ∧ s.get [true] = G c ∧ s.get [false, false, false] = x7 ∧ s.get [true, false, false] = G 0 ∧ s.get [false, true, false] = .ptr H.size 0 2 ∧ s.get [true, true, false] = G a ∧ s.get [false, false, true] = G 0 ∧ h = H.plus [.cells 0 2 [G u, G v]]) := by
  have t : Tr tbl J (c14_o2) (fun s h => s.get [] = G lot ∧ s.get [false] = G n ∧ s.get [true] = G c ∧ s.get [false, false, false] = x7 ∧ s.get [true, false, false] = G 0 ∧ h = H) .normal (fun s h => s.get [] = G lot ∧ s.get [false] = G n ∧ s.get [true] = G c ∧ s.get [false, false, false] = x7 ∧ s.get [true, false, false] = G 0 ∧ s.get [false, true, false] = .ptr H.size 0 2 ∧ s.get [true, true, false] = G a ∧ s.get [false, false, true] = G 0 ∧ h = H.plus [.cells 0 2 [G u, G v]]) := Tr.region fun s h hp => by
    obtain ⟨g0, g1, g2, g3, g4, rfl⟩ := hp
    simp (disch := first | omega | exact getEq rfl | exact getO0 | exact Nat.le_of_ble_eq_true rfl) [c14_o2, came_some, goI, List.getElem?_cons_zero, List.getElem?_cons_succ, kn, keep, app_growP, app_noneP, plus_N, plus_at0, put_plus0, upd_N, upd_size, putAt, AV.cells, fillA, loadA, takeA, mk, Eff.isAll, Eff.isNone, Eff.commutes, Eff.spares, okPair, apart, eqAgg, fits, LK.fits, allEq, aveq, eqk, mmA, beqT, wrapI, idxI, tdivI, tmodI, decT, decF, ibT, ibF, inT, inF, evScope_c, if_pos, if_neg, g0, g1, g2, g3, g4, K.k36, hB]
  exact t

theorem v14_3 (J : CallF) (K : Kn6 J) (hl : 1 ≤ lot ∧ lot ≤ 36) (hn : 1 ≤ n ∧ (n : Int) ≤ lot) (hc : 0 ≤ c ∧ c < n) (x7 x9 : AV) (H : Heap) : Tr tbl J c14_o3 (fun s h => s.get [] = G lot ∧ s.get [false] = G n ∧ s.get [true] = G c ∧ s.get [false, false, false] = x7 ∧ s.get [true, false, false] = G 0 ∧ s.get [false, true, false] = x9 ∧ s.get [true, true, false] = G a ∧ s.get [false, false, true] = G 0 ∧ h = H) .normal (fun s h => s.get [] = G lot ∧ s.get [false] = G n ∧ s.get [true] = G c ∧ s.get [false, false, false] = x7 ∧ s.get [true, false, false] = G 0 ∧ s.get [false, true, false] = x9 ∧ s.get [true, true, false] = G a ∧ s.get [false, false, true] = G 0 ∧ s.get [true, false, true] = .ptr (H.plus (own32 H.size n c)).size 0 2 ∧ s.get [false, true, true] = G 0 ∧ h = (H.plus (own32 H.size n c)).plus [X14 H.size n]) := by
  have k := fun h => K.k32 h lot n c (by omega) hn.2 hl.2 hc.1 hc.2
  simp only [Int.toNat_natCast] at k
  have hne : ∀ S, own32 S n c ≠ [] := fun S => by simp [own32]
  have t : Tr tbl J (c14_o3) (fun s h => s.get [] = G lot ∧ s.get [false] = G n ∧ s.get [true] = G c ∧ s.get [false, false, false] = x7 ∧ s.get [true, false, false] = G 0 ∧ s.get [false, true, false] = x9 ∧ s.get [true, true, false] = G a ∧ s.get [false, false, true] = G 0 ∧ h = H) .normal (fun s h => s.get [] = G lot ∧ s.get [false] = G n ∧ s.get [true] = G c ∧ s.get [false, false, false] = x7 ∧ s.get [true, false, false] = G 0 ∧ s.get [false, true, false] = x9 ∧ s.get [true, true, false] = G a ∧ s.get [false, false, true] = G 0 ∧ s.get [true, false, true] = .ptr (H.plus (own32 H.size n c)).size 0 2 ∧ s.get [false, true, true] = G 0 ∧ h = (H.plus (own32 H.size n c)).plus [X14 H.size n]) := Tr.region fun s h hp => by
    obtain ⟨g0, g1, g2, g3, g4, g5, g6, g7, rfl⟩ := hp
    simp (disch := first | omega | exact getEq rfl | exact getO0 | exact Nat.le_of_ble_eq_true rfl) [c14_o3, came_some, goI, List.getElem?_cons_zero, List.getElem?_cons_succ, kn, keep, app_growP, app_noneP, plus_N, plus_at0, put_plus0, upd_N, upd_size, putAt, AV.cells, fillA, loadA, takeA, mk, Eff.isAll, Eff.isNone, Eff.commutes, Eff.spares, okPair, apart, eqAgg, fits, LK.fits, allEq, aveq, eqk, mmA, beqT, wrapI, idxI, tdivI, tmodI, decT, decF, ibT, ibF, inT, inF, evScope_c, if_pos, if_neg, g0, g1, g2, g3, g4, g5, g6, g7, k, hne]
  exact t

theorem v14_4 (J : CallF) (K : Kn6 J) (hl : 1 ≤ lot ∧ lot ≤ 36) (hn : 1 ≤ n ∧ (n : Int) ≤ lot) (hc : 0 ≤ c ∧ c < n) (x7 x9 x12 : AV) (H : Heap) : Tr tbl J (.seq c14_o4 (.cond (.s [true, true, true, false, true]) (.seq c14_o5 .ret) .skip)) (fun s h => s.get [] = G lot ∧ s.get [false] = G n ∧ s.get [true] = G c ∧ s.get [false, false, false] = x7 ∧ s.get [true, false, false] = G 0 ∧ s.get [false, true, false] = x9 ∧ s.get [true, true, false] = G a ∧ s.get [false, false, true] = G 0 ∧ s.get [true, false, true] = x12 ∧ s.get [false, true, true] = G 0 ∧ h = H) .normal (fun s h => s.get [] = G lot ∧ s.get [false] = G n ∧ s.get [true] = G c ∧ s.get [false, false, false] = x7 ∧ s.get [true, false, false] = G 0 ∧ s.get [false, true, false] = x9 ∧ s.get [true, true, false] = G a ∧ s.get [false, false, true] = G 0 ∧ s.get [true, false, true] = x12 ∧ s.get [false, true, true] = G 0 ∧ h = H) := by
  have hp : planOk lot n c := ⟨⟨by omega, hn.2⟩, hc.1, by omega⟩
  have t : Tr tbl J ((.seq c14_o4 (.cond (.s [true, true, true, false, true]) (.seq c14_o5 .ret) .skip))) (fun s h => s.get [] = G lot ∧ s.get [false] = G n ∧ s.get [true] = G c ∧ s.get [false, false, false] = x7 ∧ s.get [true, false, false] = G 0 ∧ s.get [false, true, false] = x9 ∧ s.get [true, true, false] = G a ∧ s.get [false, false, true] = G 0 ∧ s.get [true, false, true] = x12 ∧ s.get [false, true, true] = G 0 ∧ h = H) .normal (fun s h => s.get [] = G lot ∧ s.get [false] = G n ∧ s.get [true] = G c ∧ s.get [false, false, false] = x7 ∧ s.get [true, false, false] = G 0 ∧ s.get [false, true, false] = x9 ∧ s.get [true, true, false] = G a ∧ s.get [false, false, true] = G 0 ∧ s.get [true, false, true] = x12 ∧ s.get [false, true, true] = G 0 ∧ h = H) := Tr.region fun s h hp => by
    obtain ⟨g0, g1, g2, g3, g4, g5, g6, g7, g8, g9, rfl⟩ := hp
    simp (disch := first | omega | exact getEq rfl | exact getO0 | exact Nat.le_of_ble_eq_true rfl) [c14_o4, came_some, goI, List.getElem?_cons_zero, List.getElem?_cons_succ, kn, keep, app_growP, app_noneP, plus_N, plus_at0, put_plus0, upd_N, upd_size, putAt, AV.cells, fillA, loadA, takeA, mk, Eff.isAll, Eff.isNone, Eff.commutes, Eff.spares, okPair, apart, eqAgg, fits, LK.fits, allEq, aveq, eqk, mmA, beqT, wrapI, idxI, tdivI, tmodI, decT, decF, ibT, ibF, inT, inF, evScope_c, if_pos, if_neg, g0, g1, g2, g3, g4, g5, g6, g7, g8, g9, K.k30, hp]
  exact t

theorem v14_6 (J : CallF) (K : Kn6 J) (hl : 1 ≤ lot ∧ lot ≤ 36) (hn : 1 ≤ n ∧ (n : Int) ≤ lot) (hc : 0 ≤ c ∧ c < n) (x7 x9 x12 : AV) (H : Heap) : Tr tbl J c14_o6 (fun s h => s.get [] = G lot ∧ s.get [false] = G n ∧ s.get [true] = G c ∧ s.get [false, false, false] = x7 ∧ s.get [true, false, false] = G 0 ∧ s.get [false, true, false] = x9 ∧ s.get [true, true, false] = G a ∧ s.get [false, false, true] = G 0 ∧ s.get [true, false, true] = x12 ∧ s.get [false, true, true] = G 0 ∧ h = H) .normal (fun s h => s.get [] = G lot ∧ s.get [false] = G n ∧ s.get [true] = G c ∧ s.get [false, false, false] = x7 ∧ s.get [true, false, false] = G 0 ∧ s.get [false, true, false] = x9 ∧ s.get [true, true, false] = G a ∧ s.get [false, false, true] = G 0 ∧ s.get [true, false, true] = x12 ∧ s.get [false, true, true] = G 0 ∧ s.get [true, true, true] = .ptr (H.plus (own44 H.size n c)).size 0 2 ∧ h = (H.plus (own44 H.size n c)).plus [Y14 H.size n]) := by
  have k := fun h => K.k44 h n c (by omega) (by omega) hc.1 hc.2
  simp only [Int.toNat_natCast] at k
  have hne : ∀ S, own44 S n c ≠ [] := fun S => by simp [own44]
  have t : Tr tbl J (c14_o6) (fun s h => s.get [] = G lot ∧ s.get [false] = G n ∧ s.get [true] = G c ∧ s.get [false, false, false] = x7 ∧ s.get [true, false, false] = G 0 ∧ s.get [false, true, false] = x9 ∧ s.get [true, true, false] = G a ∧ s.get [false, false, true] = G 0 ∧ s.get [true, false, true] = x12 ∧ s.get [false, true, true] = G 0 ∧ h = H) .normal (fun s h => s.get [] = G lot ∧ s.get [false] = G n ∧ s.get [true] = G c ∧ s.get [false, false, false] = x7 ∧ s.get [true, false, false] = G 0 ∧ s.get [false, true, false] = x9 ∧ s.get [true, true, false] = G a ∧ s.get [false, false, true] = G 0 ∧ s.get [true, false, true] = x12 ∧ s.get [false, true, true] = G 0 ∧ s.get [true, true, true] = .ptr (H.plus (own44 H.size n c)).size 0 2 ∧ h = (H.plus (own44 H.size n c)).plus [Y14 H.size n]) := Tr.region fun s h hp => by
    obtain ⟨g0, g1, g2, g3, g4, g5, g6, g7, g8, g9, rfl⟩ := hp
    simp (disch := first | omega | exact getEq rfl | exact getO0 | exact Nat.le_of_ble_eq_true rfl) [c14_o6, came_some, goI, List.getElem?_cons_zero, List.getElem?_cons_succ, kn, keep, app_growP, app_noneP, plus_N, plus_at0, put_plus0, upd_N, upd_size, putAt, AV.cells, fillA, loadA, takeA, mk, Eff.isAll, Eff.isNone, Eff.commutes, Eff.spares, okPair, apart, eqAgg, fits, LK.fits, allEq, aveq, eqk, mmA, beqT, wrapI, idxI, tdivI, tmodI, decT, decF, ibT, ibF, inT, inF, evScope_c, if_pos, if_neg, g0, g1, g2, g3, g4, g5, g6, g7, g8, g9, k, hne]
  exact t

theorem v14_7 (J : CallF) (K : Kn6 J) (x9 : AV) (H : Heap) (vv : Nat) (hl : 1 ≤ lot ∧ lot ≤ 36) {sa sr sa' sr' : AV} {A R : List Int} (g12 : H.get b12 = .cells 0 2 [sa, sr]) (g14 : H.get b14 = .cells 0 2 [sa', sr'])
    (l1 : listOf H sa = some A) (l2 : listOf H sr = some R) (l3 : listOf H sa' = some A) (l4 : listOf H sr' = some R) (hA : A.length ≤ 36) (hR : R.length ≤ 36) :
    Tr tbl J (.seq c14_o7 (.cond (.s [false, true, false, false, false, false, false]) (.seq c14_o8 .ret) .skip)) (fun s h => s.get [] = G lot ∧ s.get [false] = G n ∧ s.get [true] = G c ∧ s.get [false, false, false] = .slice 2 0 (lot.toNat + 1) vv ∧ s.get [true, false, false] = G 0 ∧ s.get [false, true, false] = x9 ∧ s.get [true, true, false] = G a ∧ s.get [false, false, true] = G 0 ∧ s.get [true, false, true] = .ptr b12 0 2 ∧ s.get [false, true, true] = G 0 ∧ s.get [true, true, true] = .ptr b14 0 2 ∧ h = H) .normal (fun s h => s.get [] = G lot ∧ s.get [false] = G n ∧ s.get [true] = G c ∧ s.get [false, false, false] = .slice 2 0 (lot.toNat + 1) vv ∧ s.get [false, true, false] = x9 ∧ s.get [true, true, false] = G a ∧ h = H) := by
  have k1 := K.k45 H sa sa' A A l1 l3 (by omega)
  have k2 := K.k45 H sr sr' R R l2 l4 (by omega)
  clear l1 l2 l3 l4
  have t : Tr tbl J ((.seq c14_o7 (.cond (.s [false, true, false, false, false, false, false]) (.seq c14_o8 .ret) .skip))) (fun s h => s.get [] = G lot ∧ s.get [false] = G n ∧ s.get [true] = G c ∧ s.get [false, false, false] = .slice 2 0 (lot.toNat + 1) vv ∧ s.get [true, false, false] = G 0 ∧ s.get [false, true, false] = x9 ∧ s.get [true, true, false] = G a ∧ s.get [false, false, true] = G 0 ∧ s.get [true, false, true] = .ptr b12 0 2 ∧ s.get [false, true, true] = G 0 ∧ s.get [true, true, true] = .ptr b14 0 2 ∧ h = H) .normal (fun s h => s.get [] = G lot ∧ s.get [false] = G n ∧ s.get [true] = G c ∧ s.get [false, false, false] = .slice 2 0 (lot.toNat + 1) vv ∧ s.get [false, true, false] = x9 ∧ s.get [true, true, false] = G a ∧ h = H) := Tr.region fun s h hp => by
    obtain ⟨g0, g1, g2, g3, g4, g5, g6, g7, g8, g9, g10, rfl⟩ := hp
    simp (disch := first | omega | exact getEq rfl | exact getO0 | exact Nat.le_of_ble_eq_true rfl) [c14_o7, came_some, goI, List.getElem?_cons_zero, List.getElem?_cons_succ, kn, keep, app_growP, app_noneP, plus_N, plus_at0, put_plus0, upd_N, upd_size, putAt, AV.cells, fillA, loadA, takeA, mk, Eff.isAll, Eff.isNone, Eff.commutes, Eff.spares, okPair, apart, eqAgg, fits, LK.fits, allEq, aveq, eqk, mmA, beqT, wrapI, idxI, tdivI, tmodI, decT, decF, ibT, ibF, inT, inF, evScope_c, if_pos, if_neg, g0, g1, g2, g3, g4, g5, g6, g7, g8, g9, g10, g12, g14, k1, k2]
  exact t

theorem v14_9 (J : CallF) (x7 x9 : AV) (H : Heap) : Tr tbl J c14_o9 (fun s h => s.get [] = G lot ∧ s.get [false] = G n ∧ s.get [true] = G c ∧ s.get [false, false, false] = x7 ∧ s.get [false, true, false] = x9 ∧ s.get [true, true, false] = G a ∧ h = H) .normal (fun s h => s.get [] = G lot ∧ s.get [false] = G n ∧ s.get [true] = G c ∧ s.get [false, false, false] = x7 ∧ s.get [false, true, false] = x9 ∧ s.get [true, true, false] = G a ∧ s.get [false, false, false, false] = .ptr H.size 0 2 ∧ s.get [true, false, false, false] = G 0 ∧ h = H.plus [.cells 0 2 [G 0, G 1]]) := by
  have t : Tr tbl J (c14_o9) (fun s h => s.get [] = G lot ∧ s.get [false] = G n ∧ s.get [true] = G c ∧ s.get [false, false, false] = x7 ∧ s.get [false, true, false] = x9 ∧ s.get [true, true, false] = G a ∧ h = H) .normal (fun s h => s.get [] = G lot ∧ s.get [false] = G n ∧ s.get [true] = G c ∧ s.get [false, false, false] = x7 ∧ s.get [false, true, false] = x9 ∧ s.get [true, true, false] = G a ∧ s.get [false, false, false, false] = .ptr H.size 0 2 ∧ s.get [true, false, false, false] = G 0 ∧ h = H.plus [.cells 0 2 [G 0, G 1]]) := Tr.region fun s h hp => by
    obtain ⟨g0, g1, g2, g3, g4, g5, rfl⟩ := hp
    simp (disch := first | omega | exact getEq rfl | exact getO0 | exact Nat.le_of_ble_eq_true rfl) [c14_o9, came_some, goI, List.getElem?_cons_zero, List.getElem?_cons_succ, kn, keep, app_growP, app_noneP, plus_N, plus_at0, put_plus0, upd_N, upd_size, putAt, AV.cells, fillA, loadA, takeA, mk, Eff.isAll, Eff.isNone, Eff.commutes, Eff.spares, okPair, apart, eqAgg, fits, LK.fits, allEq, aveq, eqk, mmA, beqT, wrapI, idxI, tdivI, tmodI, decT, decF, ibT, ibF, inT, inF, evScope_c, if_pos, if_neg, g0, g1, g2, g3, g4, g5]
  exact t

structure LF (h : Heap) (vv b9 b15 : Nat) (cs : List AV) (u v : Int) (B : Best) : Prop where
  n0 : h.N = 0
  f7 : h.get 2 = .cells 2 vv cs
  f9 : h.get b9 = .cells 0 2 [G u, G v]
  f15 : h.get b15 = .cells 0 2 [G B.u, G B.v]
  d1 : b15 ≠ 2
  d2 : b15 ≠ b9
theorem LF.plus {h : Heap} {B : Best} (x : LF h vv b9 b15 cs u v B) (xs : List AObj) : LF (h.plus xs) vv b9 b15 cs u v B :=
  ⟨x.n0, plus_keep xs x.f7 (by simp), plus_keep xs x.f9 (by simp), plus_keep xs x.f15 (by simp), x.d1, x.d2⟩
theorem LF.upd {h : Heap} {B : Best} (x : LF h vv b9 b15 cs u v B) (p q : Int) (k : Nat) : LF (h.upd b15 (.cells 0 2 [G p, G q])) vv b9 b15 cs u v ⟨p, q, k⟩ := by
  have h0 := x.n0
  exact ⟨x.n0, by rw [upd_ne _ _ _ _ (by omega) x.d1]; exact x.f7, by rw [upd_ne _ _ _ _ (by omega) x.d2]; exact x.f9, upd_same _ _ _ (by omega) (get_lt x.f15 (by simp)), x.d1, x.d2⟩

abbrev L14 : List Path := [[], [false], [true], [false, false, false], [false, true, false], [true, true, false], [false, false, false, false], [true, false, false, false], [false, true, false, false]]
theorem v14_step (J : CallF) (K : Kn6 J) (hl : 1 ≤ lot ∧ lot ≤ 36) (hn : 1 ≤ n ∧ (n : Int) ≤ lot) (hc : 0 ≤ c ∧ c < n) (hcs : ∀ d, d < lot.toNat + 1 → (cs.drop (d * 2)).take 2 = [G (cU lot n c d), G (cV lot n c d)]) (b : Nat) (hb : (b : Int) ≤ lot) :
    Tr tbl J (.trim L14 c14_b0) (fun s h => s.get [] = G lot ∧ s.get [false] = G n ∧ s.get [true] = G c ∧ s.get [false, false, false] = .slice 2 0 (lot.toNat + 1) vv ∧ s.get [false, true, false] = .ptr b9 0 2 ∧ s.get [true, true, false] = G a ∧ s.get [false, false, false, false] = .ptr b15 0 2 ∧ s.get [true, false, false, false] = G (bst (lU lot n c) (lV lot n c) b).a ∧ s.get [false, true, false, false] = G b ∧ LF h vv b9 b15 cs u v (bst (lU lot n c) (lV lot n c) b)) .normal
      (fun s h => s.get [] = G lot ∧ s.get [false] = G n ∧ s.get [true] = G c ∧ s.get [false, false, false] = .slice 2 0 (lot.toNat + 1) vv ∧ s.get [false, true, false] = .ptr b9 0 2 ∧ s.get [true, true, false] = G a ∧ s.get [false, false, false, false] = .ptr b15 0 2 ∧ s.get [true, false, false, false] = G (bst (lU lot n c) (lV lot n c) (b + 1)).a ∧ s.get [false, true, false, false] = G ((b + 1 : Nat) : Int) ∧ LF h vv b9 b15 cs u v (bst (lU lot n c) (lV lot n c) (b + 1))) := by
  have c2 := hcs b (by omega)
  have hn1 : 1 ≤ (n : Int) ∧ (n : Int) ≤ lot := by omega
  obtain ⟨g, a1, a2, a3, a4⟩ := lUV (c := c) hl hn1 b hb
  obtain ⟨bo, bo2⟩ := bst_ok (c := c) hl hn1 b (by omega)
  have q1 := ofZ_le lot b 36 (by omega)
  have q2 := ofZ_pos (n := lot) (k := (b : Int)) (by omega) hb
  have q3 := lft_in (lot := lot) (bad := b) (n := n) hn1.1 hn1.2 hl.2 hb (c.toNat + 1)
  have q4 := acc_le_all (lot := lot) (bad := b) (n := n) (by omega) hn1.2 (by omega) hb (c.toNat + 1)
  have e1 := fr_l lot n c b
  have e2 := fr_c lot n c b
  have eb : bst (lU lot n c) (lV lot n c) (b + 1) = if (bst (lU lot n c) (lV lot n c) b).u * lV lot n c b < lU lot n c b * (bst (lU lot n c) (lV lot n c) b).v then ⟨lU lot n c b, lV lot n c b, b⟩ else bst (lU lot n c) (lV lot n c) b := rfl
  rw [eb]
  clear hcs a1 a2 a3 eb
  generalize bst (lU lot n c) (lV lot n c) b = B at *
  obtain ⟨bu, bv, ba⟩ := B
  simp only at bo bo2
  generalize lU lot n c b = p at *
  generalize lV lot n c b = q at *
  generalize cU lot n c b = p2 at *
  generalize cV lot n c b = q2' at *
  obtain ⟨⟨v1, v2⟩, ⟨v3, v4⟩, _⟩ := a4
  obtain ⟨⟨w1, w2⟩, ⟨w3, w4⟩, _⟩ := bo
  simp only
  have ta : Tr tbl J ((.trim L14 (.seq c14_o11 (.cond (.s [false, true, true, false, false, false, false]) .skip (.exit 0))))) (fun s h => s.get [] = G lot ∧ s.get [false] = G n ∧ s.get [true] = G c ∧ s.get [false, false, false] = .slice 2 0 (lot.toNat + 1) vv ∧ s.get [false, true, false] = .ptr b9 0 2 ∧ s.get [true, true, false] = G a ∧ s.get [false, false, false, false] = .ptr b15 0 2 ∧ s.get [true, false, false, false] = G ba ∧ s.get [false, true, false, false] = G b ∧ LF h vv b9 b15 cs u v ⟨bu, bv, ba⟩) .normal (fun s h => s.get [] = G lot ∧ s.get [false] = G n ∧ s.get [true] = G c ∧ s.get [false, false, false] = .slice 2 0 (lot.toNat + 1) vv ∧ s.get [false, true, false] = .ptr b9 0 2 ∧ s.get [true, true, false] = G a ∧ s.get [false, false, false, false] = .ptr b15 0 2 ∧ s.get [true, false, false, false] = G ba ∧ s.get [false, true, false, false] = G b ∧ LF h vv b9 b15 cs u v ⟨bu, bv, ba⟩) := Tr.region fun s h hp => by
    obtain ⟨g0, g1, g2, g3, g4, g5, g6, g7, g8, hh0⟩ := hp
    simp (disch := first | omega | exact getEq rfl | exact getO0 | exact Nat.le_of_ble_eq_true rfl) [c14_o11, came_some, goI, List.getElem?_cons_zero, List.getElem?_cons_succ, kn, keep, app_growP, app_noneP, plus_N, plus_at0, put_plus0, upd_N, upd_size, putAt, AV.cells, fillA, loadA, takeA, mk, Eff.isAll, Eff.isNone, Eff.commutes, Eff.spares, okPair, apart, eqAgg, fits, LK.fits, allEq, aveq, eqk, mmA, beqT, wrapI, idxI, tdivI, tmodI, decT, decF, ibT, ibF, inT, inF, evScope_c, if_pos, if_neg, g0, g1, g2, g3, g4, g5, g6, g7, g8, hh0]
  have tb : Tr tbl J ((.seq c14_o12 (.seq c14_o13 (.cond (.s [true, true, true, false, true, false, false]) (.seq c14_o14 .ret) .skip)))) (fun s h => s.get [] = G lot ∧ s.get [false] = G n ∧ s.get [true] = G c ∧ s.get [false, false, false] = .slice 2 0 (lot.toNat + 1) vv ∧ s.get [false, true, false] = .ptr b9 0 2 ∧ s.get [true, true, false] = G a ∧ s.get [false, false, false, false] = .ptr b15 0 2 ∧ s.get [true, false, false, false] = G ba ∧ s.get [false, true, false, false] = G b ∧ LF h vv b9 b15 cs u v ⟨bu, bv, ba⟩) .normal (fun s h => s.get [] = G lot ∧ s.get [false] = G n ∧ s.get [true] = G c ∧ s.get [false, false, false] = .slice 2 0 (lot.toNat + 1) vv ∧ s.get [false, true, false] = .ptr b9 0 2 ∧ s.get [true, true, false] = G a ∧ s.get [false, false, false, false] = .ptr b15 0 2 ∧ s.get [true, false, false, false] = G ba ∧ s.get [false, true, false, false] = G b ∧ s.get [true, true, false, false] = G (ofZ lot b) ∧ LF h vv b9 b15 cs u v ⟨bu, bv, ba⟩) := Tr.region fun s h hp => by
    obtain ⟨g0, g1, g2, g3, g4, g5, g6, g7, g8, hh0⟩ := hp
    have f7 := hh0.f7
    simp (disch := first | omega | exact getEq rfl | exact getO0 | exact Nat.le_of_ble_eq_true rfl) [c14_o12, c14_o13, came_some, goI, List.getElem?_cons_zero, List.getElem?_cons_succ, kn, keep, app_growP, app_noneP, plus_N, plus_at0, put_plus0, upd_N, upd_size, putAt, AV.cells, fillA, loadA, takeA, mk, Eff.isAll, Eff.isNone, Eff.commutes, Eff.spares, okPair, apart, eqAgg, fits, LK.fits, allEq, aveq, eqk, mmA, beqT, wrapI, idxI, tdivI, tmodI, decT, decF, ibT, ibF, inT, inF, evScope_c, if_pos, if_neg, g0, g1, g2, g3, g4, g5, g6, g7, g8, hh0, K.k29, K.k31, K.k25, e2, f7, c2]
  have td : Tr tbl J ((.seq c14_o15 (.seq c14_o16 (.cond (.s [true, false, false, false, false, true, false]) (.seq c14_o17 c14_o18) .skip)))) (fun s h => s.get [] = G lot ∧ s.get [false] = G n ∧ s.get [true] = G c ∧ s.get [false, false, false] = .slice 2 0 (lot.toNat + 1) vv ∧ s.get [false, true, false] = .ptr b9 0 2 ∧ s.get [true, true, false] = G a ∧ s.get [false, false, false, false] = .ptr b15 0 2 ∧ s.get [true, false, false, false] = G ba ∧ s.get [false, true, false, false] = G b ∧ s.get [true, true, false, false] = G (ofZ lot b) ∧ LF h vv b9 b15 cs u v ⟨bu, bv, ba⟩) .normal (fun s h => s.get [] = G lot ∧ s.get [false] = G n ∧ s.get [true] = G c ∧ s.get [false, false, false] = .slice 2 0 (lot.toNat + 1) vv ∧ s.get [false, true, false] = .ptr b9 0 2 ∧ s.get [true, true, false] = G a ∧ s.get [false, false, false, false] = .ptr b15 0 2 ∧ s.get [true, false, false, false] = G (if bu * q < p * bv then (⟨p, q, b⟩ : Best) else ⟨bu, bv, ba⟩).a ∧ s.get [false, true, false, false] = G b ∧ LF h vv b9 b15 cs u v (if bu * q < p * bv then (⟨p, q, b⟩ : Best) else ⟨bu, bv, ba⟩)) := Tr.region fun s h hp => by
    obtain ⟨g0, g1, g2, g3, g4, g5, g6, g7, g8, g9, hh0⟩ := hp
    have f15 := hh0.f15
    have n0 := hh0.n0
    have hlt := get_lt f15 (by simp)
    have x1 : ∀ X, (h.plus [X]).get b15 = .cells 0 2 [G bu, G bv] := fun X => plus_keep [X] f15 (by simp)
    have x2 : ∀ X, Eff.app (.put b15 2 0 [G p, G q]) (h.plus [X]) = some ((h.plus [X]).upd b15 (.cells 0 2 [G p, G q])) := fun X => put_gen _ _ _ _ _ _ _ (by rw [plus_N]; omega) (x1 X) (by simp)
    have x3 := hh0.plus [.cells 0 2 [G p, G q]]
    have x4 := x3.upd p q b
    by_cases hx : bu * q < p * bv
    · simp (disch := first | omega | exact getEq rfl | exact getO0 | exact Nat.le_of_ble_eq_true rfl) [c14_o15, c14_o16, c14_o17, c14_o18, came_some, goI, List.getElem?_cons_zero, List.getElem?_cons_succ, kn, keep, app_growP, app_noneP, plus_N, plus_at0, put_plus0, upd_N, upd_size, putAt, AV.cells, fillA, loadA, takeA, mk, Eff.isAll, Eff.isNone, Eff.commutes, Eff.spares, okPair, apart, eqAgg, fits, LK.fits, allEq, aveq, eqk, mmA, beqT, wrapI, idxI, tdivI, tmodI, decT, decF, ibT, ibF, inT, inF, evScope_c, if_pos, if_neg, g0, g1, g2, g3, g4, g5, g6, g7, g8, g9, hh0, K.k37, K.k25, K.k27, e1, x1, x2, hx, x3, x4]
    · simp (disch := first | omega | exact getEq rfl | exact getO0 | exact Nat.le_of_ble_eq_true rfl) [c14_o15, c14_o16, c14_o17, c14_o18, came_some, goI, List.getElem?_cons_zero, List.getElem?_cons_succ, kn, keep, app_growP, app_noneP, plus_N, plus_at0, put_plus0, upd_N, upd_size, putAt, AV.cells, fillA, loadA, takeA, mk, Eff.isAll, Eff.isNone, Eff.commutes, Eff.spares, okPair, apart, eqAgg, fits, LK.fits, allEq, aveq, eqk, mmA, beqT, wrapI, idxI, tdivI, tmodI, decT, decF, ibT, ibF, inT, inF, evScope_c, if_pos, if_neg, g0, g1, g2, g3, g4, g5, g6, g7, g8, g9, hh0, K.k37, K.k25, K.k27, e1, x1, x2, hx, x3, x4]
  have te : Tr tbl J (c14_o19) (fun s h => s.get [] = G lot ∧ s.get [false] = G n ∧ s.get [true] = G c ∧ s.get [false, false, false] = .slice 2 0 (lot.toNat + 1) vv ∧ s.get [false, true, false] = .ptr b9 0 2 ∧ s.get [true, true, false] = G a ∧ s.get [false, false, false, false] = .ptr b15 0 2 ∧ s.get [true, false, false, false] = G (if bu * q < p * bv then (⟨p, q, b⟩ : Best) else ⟨bu, bv, ba⟩).a ∧ s.get [false, true, false, false] = G b ∧ LF h vv b9 b15 cs u v (if bu * q < p * bv then (⟨p, q, b⟩ : Best) else ⟨bu, bv, ba⟩)) .normal (fun s h => s.get [] = G lot ∧ s.get [false] = G n ∧ s.get [true] = G c ∧ s.get [false, false, false] = .slice 2 0 (lot.toNat + 1) vv ∧ s.get [false, true, false] = .ptr b9 0 2 ∧ s.get [true, true, false] = G a ∧ s.get [false, false, false, false] = .ptr b15 0 2 ∧ s.get [true, false, false, false] = G (if bu * q < p * bv then (⟨p, q, b⟩ : Best) else ⟨bu, bv, ba⟩).a ∧ s.get [false, true, false, false] = G ((b + 1 : Nat) : Int) ∧ LF h vv b9 b15 cs u v (if bu * q < p * bv then (⟨p, q, b⟩ : Best) else ⟨bu, bv, ba⟩)) := Tr.region fun s h hp => by
    obtain ⟨g0, g1, g2, g3, g4, g5, g6, g7, g8, hh0⟩ := hp
    simp (disch := first | omega | exact getEq rfl | exact getO0 | exact Nat.le_of_ble_eq_true rfl) [c14_o19, came_some, goI, List.getElem?_cons_zero, List.getElem?_cons_succ, kn, keep, app_growP, app_noneP, plus_N, plus_at0, put_plus0, upd_N, upd_size, putAt, AV.cells, fillA, loadA, takeA, mk, Eff.isAll, Eff.isNone, Eff.commutes, Eff.spares, okPair, apart, eqAgg, fits, LK.fits, allEq, aveq, eqk, mmA, beqT, wrapI, idxI, tdivI, tmodI, decT, decF, ibT, ibF, inT, inF, evScope_c, if_pos, if_neg, g0, g1, g2, g3, g4, g5, g6, g7, g8, hh0]
  exact Tr.trim_seq ta (Tr.seq (Tr.block_out (Tr.app2 tb td) (by simp)) te)

theorem v14_loop (J : CallF) (K : Kn6 J) (hl : 1 ≤ lot ∧ lot ≤ 36) (hn : 1 ≤ n ∧ (n : Int) ≤ lot) (hc : 0 ≤ c ∧ c < n) (hB : leftB lot n c = ⟨u, v, a⟩) (hcs : ∀ d, d < lot.toNat + 1 → (cs.drop (d * 2)).take 2 = [G (cU lot n c d), G (cV lot n c d)]) :
    Tr tbl J (.seq (.seq c14_o10 (.block 0 c14_l0)) (.seq c14_o20 .ret)) (fun s h => s.get [] = G lot ∧ s.get [false] = G n ∧ s.get [true] = G c ∧ s.get [false, false, false] = .slice 2 0 (lot.toNat + 1) vv ∧ s.get [false, true, false] = .ptr b9 0 2 ∧ s.get [true, true, false] = G a ∧ s.get [false, false, false, false] = .ptr b15 0 2 ∧ s.get [true, false, false, false] = G 0 ∧ LF h vv b9 b15 cs u v ⟨0, 1, 0⟩) .ret (fun s h => s.get [true, true] = .bool true) := by
  have t0 : Tr tbl J (c14_o10) (fun s h => s.get [] = G lot ∧ s.get [false] = G n ∧ s.get [true] = G c ∧ s.get [false, false, false] = .slice 2 0 (lot.toNat + 1) vv ∧ s.get [false, true, false] = .ptr b9 0 2 ∧ s.get [true, true, false] = G a ∧ s.get [false, false, false, false] = .ptr b15 0 2 ∧ s.get [true, false, false, false] = G 0 ∧ LF h vv b9 b15 cs u v ⟨0, 1, 0⟩) .normal (fun s h => s.get [] = G lot ∧ s.get [false] = G n ∧ s.get [true] = G c ∧ s.get [false, false, false] = .slice 2 0 (lot.toNat + 1) vv ∧ s.get [false, true, false] = .ptr b9 0 2 ∧ s.get [true, true, false] = G a ∧ s.get [false, false, false, false] = .ptr b15 0 2 ∧ s.get [true, false, false, false] = G ((0 : Nat) : Int) ∧ s.get [false, true, false, false] = G ((0 : Nat) : Int) ∧ LF h vv b9 b15 cs u v ⟨0, 1, 0⟩) := Tr.region fun s h hp => by
    obtain ⟨g0, g1, g2, g3, g4, g5, g6, g7, hh0⟩ := hp
    simp (disch := first | omega | exact getEq rfl | exact getO0 | exact Nat.le_of_ble_eq_true rfl) [c14_o10, came_some, goI, List.getElem?_cons_zero, List.getElem?_cons_succ, kn, keep, app_growP, app_noneP, plus_N, plus_at0, put_plus0, upd_N, upd_size, putAt, AV.cells, fillA, loadA, takeA, mk, Eff.isAll, Eff.isNone, Eff.commutes, Eff.spares, okPair, apart, eqAgg, fits, LK.fits, allEq, aveq, eqk, mmA, beqT, wrapI, idxI, tdivI, tmodI, decT, decF, ibT, ibF, inT, inF, evScope_c, if_pos, if_neg, g0, g1, g2, g3, g4, g5, g6, g7, hh0]
  have t1 : Tr tbl J ((.trim L14 c14_b0)) (fun s h => s.get [] = G lot ∧ s.get [false] = G n ∧ s.get [true] = G c ∧ s.get [false, false, false] = .slice 2 0 (lot.toNat + 1) vv ∧ s.get [false, true, false] = .ptr b9 0 2 ∧ s.get [true, true, false] = G a ∧ s.get [false, false, false, false] = .ptr b15 0 2 ∧ s.get [true, false, false, false] = G a ∧ s.get [false, true, false, false] = G ((lot.toNat + 1 : Nat) : Int) ∧ LF h vv b9 b15 cs u v ⟨u, v, a⟩) (.exit 0) (fun s h => s.get [false, true, false] = .ptr b9 0 2 ∧ s.get [true, true, false] = G a ∧ s.get [false, false, false, false] = .ptr b15 0 2 ∧ s.get [true, false, false, false] = G a ∧ LF h vv b9 b15 cs u v ⟨u, v, a⟩) := Tr.region fun s h hp => by
    obtain ⟨g0, g1, g2, g3, g4, g5, g6, g7, g8, hh0⟩ := hp
    simp (disch := first | omega | exact getEq rfl | exact getO0 | exact Nat.le_of_ble_eq_true rfl) [c14_b0, c14_o11, came_some, goI, List.getElem?_cons_zero, List.getElem?_cons_succ, kn, keep, app_growP, app_noneP, plus_N, plus_at0, put_plus0, upd_N, upd_size, putAt, AV.cells, fillA, loadA, takeA, mk, Eff.isAll, Eff.isNone, Eff.commutes, Eff.spares, okPair, apart, eqAgg, fits, LK.fits, allEq, aveq, eqk, mmA, beqT, wrapI, idxI, tdivI, tmodI, decT, decF, ibT, ibF, inT, inF, evScope_c, if_pos, if_neg, g0, g1, g2, g3, g4, g5, g6, g7, g8, hh0]
  have t2 : Tr tbl J ((.seq c14_o20 .ret)) (fun s h => s.get [false, true, false] = .ptr b9 0 2 ∧ s.get [true, true, false] = G a ∧ s.get [false, false, false, false] = .ptr b15 0 2 ∧ s.get [true, false, false, false] = G a ∧ LF h vv b9 b15 cs u v ⟨u, v, a⟩) .ret (fun s h => s.get [true, true] = .bool true) := Tr.region fun s h hp => by
    obtain ⟨g0, g1, g2, g3, hh0⟩ := hp
    have f9 := hh0.f9
    have f15 := hh0.f15
    simp (disch := first | omega | exact getEq rfl | exact getO0 | exact Nat.le_of_ble_eq_true rfl) [c14_o20, came_some, goI, List.getElem?_cons_zero, List.getElem?_cons_succ, kn, keep, app_growP, app_noneP, plus_N, plus_at0, put_plus0, upd_N, upd_size, putAt, AV.cells, fillA, loadA, takeA, mk, Eff.isAll, Eff.isNone, Eff.commutes, Eff.spares, okPair, apart, eqAgg, fits, LK.fits, allEq, aveq, eqk, mmA, beqT, wrapI, idxI, tdivI, tmodI, decT, decF, ibT, ibF, inT, inF, evScope_c, if_pos, if_neg, g0, g1, g2, g3, hh0, f9, f15, K.k20]
  have hB' : bst (lU lot n c) (lV lot n c) (lot.toNat + 1) = ⟨u, v, a⟩ := hB
  have tl := Tr.rounds (P := fun b => (fun s h => s.get [] = G lot ∧ s.get [false] = G n ∧ s.get [true] = G c ∧ s.get [false, false, false] = .slice 2 0 (lot.toNat + 1) vv ∧ s.get [false, true, false] = .ptr b9 0 2 ∧ s.get [true, true, false] = G a ∧ s.get [false, false, false, false] = .ptr b15 0 2 ∧ s.get [true, false, false, false] = G (bst (lU lot n c) (lV lot n c) b).a ∧ s.get [false, true, false, false] = G b ∧ LF h vv b9 b15 cs u v (bst (lU lot n c) (lV lot n c) b))) (M := lot.toNat + 1) (fun b hb => v14_step J K hl hn hc hcs b (by omega)) (by rw [hB']; exact t1) (by simp) 0 (by omega)
  exact Tr.seq (Tr.seq t0 (Tr.block tl)) t2

theorem v14_good (J : CallF) (K : Kn6 J) (hJ : ∀ a h, J 14 a h = none) (hl : 1 ≤ lot ∧ lot ≤ 36) (hn : 1 ≤ n ∧ (n : Int) ≤ lot) (hc : 0 ≤ c ∧ c < n) : CallsTo tbl J 14 [G lot, G n, G c] e0 (.bool true, [], false) := by
  obtain ⟨⟨u, v, a⟩, hB⟩ : ∃ b, leftB lot n c = b := ⟨_, rfl⟩
  refine Tr.fnv (cf := c14) (e := .ret) (s := S14 lot c n) (by decide) rfl (hJ _ _) rfl rfl rfl (by simp) ?_
  refine Tr.post (Q := (fun s h => s.get [true, true] = .bool true)) (fun s h q => by simp [c14, q]) (Tr.app2 (v14_1 J K hl hn hc) ?_)
  have hc7 : ∀ d, d < lot.toNat + 1 → ((frs (cU lot n c) (cV lot n c) (lot.toNat + 1)).drop (d * 2)).take 2 = [G (cU lot n c d), G (cV lot n c d)] := fun d hd => frs_at _ _ _ d hd
  obtain ⟨H1, e1⟩ : ∃ H, (⟨e0.get, 0, ownC (cU lot n c) (cV lot n c) lot.toNat⟩ : Heap) = H := ⟨_, rfl⟩
  have f7 : H1.get 2 = .cells 2 (2 * (lot.toNat + 1)) (frs (cU lot n c) (cV lot n c) (lot.toNat + 1)) := by rw [← e1]; rfl
  have n1 : H1.N = 0 := by rw [← e1]
  rw [e1]
  generalize frs (cU lot n c) (cV lot n c) (lot.toNat + 1) = cs at *
  clear e1
  refine Tr.seq (v14_2 J K hl hn hc hB _ H1) ?_
  -- Left
  obtain ⟨H2, e2⟩ : ∃ H, H1.plus [.cells 0 2 [G u, G v]] = H := ⟨_, rfl⟩
  have f9 : H2.get H1.size = .cells 0 2 [G u, G v] := by rw [← e2]; exact plus_at0 _ _ _ _ rfl
  have f7b := plus_keep [.cells 0 2 [G u, G v]] f7 (by simp)
  rw [e2] at f7b
  have n2 : H2.N = 0 := by rw [← e2]; exact n1
  have s2 : H1.size < H2.size := get_lt f9 (by simp)
  rw [e2]
  generalize H1.size = b9 at *
  clear e2 f7 n1 H1
  refine Tr.seq (v14_3 J K hl hn hc _ _ H2) ?_
  -- Curtail
  obtain ⟨H3, e3⟩ : ∃ H, (H2.plus (own32 H2.size n c)).plus [X14 H2.size n] = H := ⟨_, rfl⟩
  obtain ⟨b12, eb12⟩ : ∃ b, (H2.plus (own32 H2.size n c)).size = b := ⟨_, rfl⟩
  have f12 : H3.get b12 = X14 H2.size n := by rw [← e3]; exact plus_at0 _ _ _ _ eb12
  have fa : H3.get (H2.size + 5) = .cells 1 n (zs (cA n c) n) := by
    rw [← e3]; refine plus_keep _ ?_ (by simp)
    rw [plus_ge _ _ _ (by omega), Nat.add_sub_cancel_left]; rfl
  have fr' : H3.get (H2.size + 2) = .cells 1 n (List.replicate n (G (c + 1))) := by
    rw [← e3]; refine plus_keep _ ?_ (by simp)
    rw [plus_ge _ _ _ (by omega), Nat.add_sub_cancel_left]; rfl
  have k3 := fun {b : Nat} {x : AObj} (e : H2.get b = x) (hx : x ≠ .hole) => (show H3.get b = x by rw [← e3]; exact plus_keep _ (plus_keep _ e hx) hx)
  have f7c := k3 f7b (by simp)
  have f9c := k3 f9 (by simp)
  have n3 : H3.N = 0 := by rw [← e3]; exact n2
  rw [e3, eb12]
  generalize H2.size = S at *
  clear k3 e3 f7b f9 n2 eb12 H2
  refine Tr.seq (v14_4 J K hl hn hc _ _ _ H3) ?_
  refine Tr.seq (v14_6 J K hl hn hc _ _ _ H3) ?_
  obtain ⟨H6, e6⟩ : ∃ H, (H3.plus (own44 H3.size n c)).plus [Y14 H3.size n] = H := ⟨_, rfl⟩
  obtain ⟨b14, eb14⟩ : ∃ b, (H3.plus (own44 H3.size n c)).size = b := ⟨_, rfl⟩
  have f14 : H6.get b14 = Y14 H3.size n := by rw [← e6]; exact plus_at0 _ _ _ _ eb14
  have fa' : H6.get (H3.size + 3) = .cells 1 n (zs (cA n c) n) := by
    rw [← e6]; refine plus_keep _ ?_ (by simp)
    rw [plus_ge _ _ _ (by omega), Nat.add_sub_cancel_left]; rfl
  have fr2 : H6.get (H3.size + 5) = .cells 1 n (zs (fun _ => c + 1) n) := by
    rw [← e6]; refine plus_keep _ ?_ (by simp)
    rw [plus_ge _ _ _ (by omega), Nat.add_sub_cancel_left]; rfl
  have k := fun {b : Nat} {x : AObj} (e : H3.get b = x) (hx : x ≠ .hole) => (show H6.get b = x by rw [← e6]; exact plus_keep _ (plus_keep _ e hx) hx)
  have f7d := k f7c (by simp)
  have f9d := k f9c (by simp)
  have f12d := k f12 (by simp)
  have fad := k fa (by simp)
  have frd := k fr' (by simp)
  have n6 : H6.N = 0 := by rw [← e6]; exact n3
  rw [e6, eb14]
  generalize H3.size = S' at *
  clear k e6 eb14 f7c f9c f12 fa fr' n3 H3
  have hrep : ∀ m : Nat, List.replicate m (G (c + 1)) = gs (zl (fun _ => c + 1) m) := by
    intro m
    induction m with
    | zero => rfl
    | succ m ih => rw [List.replicate_succ', ih]; simp [zl]
  refine Tr.seq (v14_7 J K _ H6 (2 * (lot.toNat + 1)) hl f12d f14 (listOf_cells fad (zl_len _ _)) (listOf_cells (l := zl (fun _ => c + 1) n) (by rw [frd, hrep]) (zl_len _ _)) (listOf_cells fa' (zl_len _ _)) (listOf_cells fr2 (zl_len _ _)) (by rw [zl_len]; omega) (by rw [zl_len]; omega)) ?_
  refine Tr.seq (v14_9 J _ _ H6) ?_
  have s7 := get_lt f7d (by simp)
  have s9 := get_lt f9d (by simp)
  refine Tr.pre (fun s h hp => ?_) (v14_loop (vv := 2 * (lot.toNat + 1)) (b9 := b9) (b15 := H6.size) (cs := cs) J K hl hn hc hB hc7)
  obtain ⟨p0, p1, p2, p3, p4, p5, p6, p7, rfl⟩ := hp
  exact ⟨p0, p1, p2, p3, p4, p5, p6, p7, n6, plus_keep _ f7d (by simp), plus_keep _ f9d (by simp), plus_at0 _ _ _ _ rfl, by omega, by omega⟩

theorem v14_bad (J : CallF) (K : Kn6 J) (hJ : ∀ a h, J 14 a h = none) (lot n c : Int) (hlt : lot < 9223372036854775808) (hp : ¬ (lotOk lot 0 ∧ planOk lot n c)) : CallsTo tbl J 14 [G lot, G n, G c] e0 (.bool true, [], false) := by
  have q1 := fun h => K.k35n h lot n c hlt hp
  have q2 := fun h => K.k36n h lot n c hlt hp
  have q3 := fun h => K.k32n h lot n c hlt hp
  have hcs : lot < 1 ∨ (1 ≤ lot ∧ 36 < lot) ∨ (1 ≤ lot ∧ lot ≤ 36 ∧ ¬ planOk lot n c) := by
    by_cases x : planOk lot n c
    · simp only [x, and_true, lotOk] at hp; omega
    · by_cases y : lot < 1
      · exact .inl y
      · by_cases z : 36 < lot
        · exact .inr (.inl ⟨by omega, z⟩)
        · exact .inr (.inr ⟨by omega, by omega, x⟩)
  refine Tr.fnv (cf := c14) (e := .ret) (s := T.set (T.set (T.set .leaf [] (G lot)) [false] (G n)) [true] (G c)) (by decide) rfl (hJ _ _) rfl rfl rfl (by simp) ?_
  refine Tr.post (Q := (fun s h => s.get [true, true] = .bool true)) (fun s h q => by simp [c14, q]) ?_
  have t1 : Tr tbl J ((.seq c14_o0 c14_o1)) (fun s h => s = T.set (T.set (T.set .leaf [] (G lot)) [false] (G n)) [true] (G c) ∧ h = ⟨e0.get, 0, []⟩) .normal (fun s h => s.get [] = G lot ∧ s.get [false] = G n ∧ s.get [true] = G c ∧ s.get [false, false, false] = .nils ∧ s.get [true, false, false] = G 2 ∧ h = ⟨e0.get, 0, []⟩) := Tr.region fun s h hp => by
    obtain ⟨rfl, rfl⟩ := hp
    simp (disch := first | omega | exact getEq rfl | exact getO0 | exact Nat.le_of_ble_eq_true rfl) [c14_o0, c14_o1, came_some, goI, List.getElem?_cons_zero, List.getElem?_cons_succ, kn, keep, frameOf, Heap.size, Heap.get, Eff.app, Heap.setOwn, putAt, AV.cells, fillA, loadA, takeA, mk, Eff.isAll, Eff.isNone, Eff.commutes, Eff.spares, okPair, apart, eqAgg, fits, LK.fits, allEq, aveq, eqk, mmA, beqT, wrapI, idxI, tdivI, tmodI, decT, decF, ibT, ibF, inT, inF, evScope_c, if_pos, if_neg, q1]
  have t2 : Tr tbl J ((.seq c14_o2 c14_o3)) (fun s h => s.get [] = G lot ∧ s.get [false] = G n ∧ s.get [true] = G c ∧ s.get [false, false, false] = .nils ∧ s.get [true, false, false] = G 2 ∧ h = ⟨e0.get, 0, []⟩) .normal (fun s h => s.get [] = G lot ∧ s.get [false] = G n ∧ s.get [true] = G c ∧ s.get [false, false, false] = .nils ∧ s.get [true, false, false] = G 2 ∧ s.get [false, true, false] = .ptr 0 0 2 ∧ s.get [true, true, false] = G 0 ∧ s.get [false, false, true] = G 2 ∧ s.get [true, false, true] = .ptr 1 0 2 ∧ s.get [false, true, true] = G 2 ∧ h = ⟨e0.get, 0, [.cells 0 2 [G 0, G 0], .cells 0 2 [.nils, .nils]]⟩) := Tr.region fun s h hp => by
    obtain ⟨g0, g1, g2, g3, g4, rfl⟩ := hp
    simp (disch := first | omega | exact getEq rfl | exact getO0 | exact Nat.le_of_ble_eq_true rfl) [c14_o2, c14_o3, came_some, goI, List.getElem?_cons_zero, List.getElem?_cons_succ, kn, keep, frameOf, Heap.size, Heap.get, Eff.app, Heap.setOwn, putAt, AV.cells, fillA, loadA, takeA, mk, Eff.isAll, Eff.isNone, Eff.commutes, Eff.spares, okPair, apart, eqAgg, fits, LK.fits, allEq, aveq, eqk, mmA, beqT, wrapI, idxI, tdivI, tmodI, decT, decF, ibT, ibF, inT, inF, evScope_c, if_pos, if_neg, g0, g1, g2, g3, g4, q2, q3]
  have t3 : Tr tbl J c14_o4 (fun s h => s.get [] = G lot ∧ s.get [false] = G n ∧ s.get [true] = G c ∧ s.get [false, false, false] = .nils ∧ s.get [true, false, false] = G 2 ∧ s.get [false, true, false] = .ptr 0 0 2 ∧ s.get [true, true, false] = G 0 ∧ s.get [false, false, true] = G 2 ∧ s.get [true, false, true] = .ptr 1 0 2 ∧ s.get [false, true, true] = G 2 ∧ h = ⟨e0.get, 0, [.cells 0 2 [G 0, G 0], .cells 0 2 [.nils, .nils]]⟩) .normal (fun s h => s.get [false, false, false] = .nils ∧ s.get [true, false, false] = G 2 ∧ s.get [false, true, false] = .ptr 0 0 2 ∧ s.get [true, true, false] = G 0 ∧ s.get [false, false, true] = G 2 ∧ s.get [true, false, true] = .ptr 1 0 2 ∧ s.get [false, true, true] = G 2 ∧ s.get [true, true, true, false, true] = .bool true ∧ h = ⟨e0.get, 0, [.cells 0 2 [G 0, G 0], .cells 0 2 [.nils, .nils]]⟩) := by
    rcases hcs with h1 | ⟨h1, h2⟩ | ⟨h1, h2, h3⟩
    ·
      have t3 : Tr tbl J (c14_o4) (fun s h => s.get [] = G lot ∧ s.get [false] = G n ∧ s.get [true] = G c ∧ s.get [false, false, false] = .nils ∧ s.get [true, false, false] = G 2 ∧ s.get [false, true, false] = .ptr 0 0 2 ∧ s.get [true, true, false] = G 0 ∧ s.get [false, false, true] = G 2 ∧ s.get [true, false, true] = .ptr 1 0 2 ∧ s.get [false, true, true] = G 2 ∧ h = ⟨e0.get, 0, [.cells 0 2 [G 0, G 0], .cells 0 2 [.nils, .nils]]⟩) .normal (fun s h => s.get [false, false, false] = .nils ∧ s.get [true, false, false] = G 2 ∧ s.get [false, true, false] = .ptr 0 0 2 ∧ s.get [true, true, false] = G 0 ∧ s.get [false, false, true] = G 2 ∧ s.get [true, false, true] = .ptr 1 0 2 ∧ s.get [false, true, true] = G 2 ∧ s.get [true, true, true, false, true] = .bool true ∧ h = ⟨e0.get, 0, [.cells 0 2 [G 0, G 0], .cells 0 2 [.nils, .nils]]⟩) := Tr.region fun s h hp => by
        obtain ⟨g0, g1, g2, g3, g4, g5, g6, g7, g8, g9, rfl⟩ := hp
        simp (disch := first | omega | exact getEq rfl | exact getO0 | exact Nat.le_of_ble_eq_true rfl) [c14_o4, came_some, goI, List.getElem?_cons_zero, List.getElem?_cons_succ, kn, keep, frameOf, Heap.size, Heap.get, Eff.app, Heap.setOwn, putAt, AV.cells, fillA, loadA, takeA, mk, Eff.isAll, Eff.isNone, Eff.commutes, Eff.spares, okPair, apart, eqAgg, fits, LK.fits, allEq, aveq, eqk, mmA, beqT, wrapI, idxI, tdivI, tmodI, decT, decF, ibT, ibF, inT, inF, evScope_c, if_pos, if_neg, g0, g1, g2, g3, g4, g5, g6, g7, g8, g9, h1]
      exact t3
    ·
      have t3 : Tr tbl J (c14_o4) (fun s h => s.get [] = G lot ∧ s.get [false] = G n ∧ s.get [true] = G c ∧ s.get [false, false, false] = .nils ∧ s.get [true, false, false] = G 2 ∧ s.get [false, true, false] = .ptr 0 0 2 ∧ s.get [true, true, false] = G 0 ∧ s.get [false, false, true] = G 2 ∧ s.get [true, false, true] = .ptr 1 0 2 ∧ s.get [false, true, true] = G 2 ∧ h = ⟨e0.get, 0, [.cells 0 2 [G 0, G 0], .cells 0 2 [.nils, .nils]]⟩) .normal (fun s h => s.get [false, false, false] = .nils ∧ s.get [true, false, false] = G 2 ∧ s.get [false, true, false] = .ptr 0 0 2 ∧ s.get [true, true, false] = G 0 ∧ s.get [false, false, true] = G 2 ∧ s.get [true, false, true] = .ptr 1 0 2 ∧ s.get [false, true, true] = G 2 ∧ s.get [true, true, true, false, true] = .bool true ∧ h = ⟨e0.get, 0, [.cells 0 2 [G 0, G 0], .cells 0 2 [.nils, .nils]]⟩) := Tr.region fun s h hp => by
        obtain ⟨g0, g1, g2, g3, g4, g5, g6, g7, g8, g9, rfl⟩ := hp
        simp (disch := first | omega | exact getEq rfl | exact getO0 | exact Nat.le_of_ble_eq_true rfl) [c14_o4, came_some, goI, List.getElem?_cons_zero, List.getElem?_cons_succ, kn, keep, frameOf, Heap.size, Heap.get, Eff.app, Heap.setOwn, putAt, AV.cells, fillA, loadA, takeA, mk, Eff.isAll, Eff.isNone, Eff.commutes, Eff.spares, okPair, apart, eqAgg, fits, LK.fits, allEq, aveq, eqk, mmA, beqT, wrapI, idxI, tdivI, tmodI, decT, decF, ibT, ibF, inT, inF, evScope_c, if_pos, if_neg, g0, g1, g2, g3, g4, g5, g6, g7, g8, g9, h1, h2]
      exact t3
    ·
      have t3 : Tr tbl J (c14_o4) (fun s h => s.get [] = G lot ∧ s.get [false] = G n ∧ s.get [true] = G c ∧ s.get [false, false, false] = .nils ∧ s.get [true, false, false] = G 2 ∧ s.get [false, true, false] = .ptr 0 0 2 ∧ s.get [true, true, false] = G 0 ∧ s.get [false, false, true] = G 2 ∧ s.get [true, false, true] = .ptr 1 0 2 ∧ s.get [false, true, true] = G 2 ∧ h = ⟨e0.get, 0, [.cells 0 2 [G 0, G 0], .cells 0 2 [.nils, .nils]]⟩) .normal (fun s h => s.get [false, false, false] = .nils ∧ s.get [true, false, false] = G 2 ∧ s.get [false, true, false] = .ptr 0 0 2 ∧ s.get [true, true, false] = G 0 ∧ s.get [false, false, true] = G 2 ∧ s.get [true, false, true] = .ptr 1 0 2 ∧ s.get [false, true, true] = G 2 ∧ s.get [true, true, true, false, true] = .bool true ∧ h = ⟨e0.get, 0, [.cells 0 2 [G 0, G 0], .cells 0 2 [.nils, .nils]]⟩) := Tr.region fun s h hp => by
        obtain ⟨g0, g1, g2, g3, g4, g5, g6, g7, g8, g9, rfl⟩ := hp
        simp (disch := first | omega | exact getEq rfl | exact getO0 | exact Nat.le_of_ble_eq_true rfl) [c14_o4, came_some, goI, List.getElem?_cons_zero, List.getElem?_cons_succ, kn, keep, frameOf, Heap.size, Heap.get, Eff.app, Heap.setOwn, putAt, AV.cells, fillA, loadA, takeA, mk, Eff.isAll, Eff.isNone, Eff.commutes, Eff.spares, okPair, apart, eqAgg, fits, LK.fits, allEq, aveq, eqk, mmA, beqT, wrapI, idxI, tdivI, tmodI, decT, decF, ibT, ibF, inT, inF, evScope_c, if_pos, if_neg, g0, g1, g2, g3, g4, g5, g6, g7, g8, g9, K.k30, h1, h2, h3]
      exact t3
  have t4 : Tr tbl J ((.seq c14_o5 .ret)) (fun s h => s.get [false, false, false] = .nils ∧ s.get [true, false, false] = G 2 ∧ s.get [false, true, false] = .ptr 0 0 2 ∧ s.get [true, true, false] = G 0 ∧ s.get [false, false, true] = G 2 ∧ s.get [true, false, true] = .ptr 1 0 2 ∧ s.get [false, true, true] = G 2 ∧ s.get [true, true, true, false, true] = .bool true ∧ h = ⟨e0.get, 0, [.cells 0 2 [G 0, G 0], .cells 0 2 [.nils, .nils]]⟩) .ret (fun s h => s.get [true, true] = .bool true) := Tr.region fun s h hp => by
    obtain ⟨g0, g1, g2, g3, g4, g5, g6, g7, rfl⟩ := hp
    simp (disch := first | omega | exact getEq rfl | exact getO0 | exact Nat.le_of_ble_eq_true rfl) [c14_o5, came_some, goI, List.getElem?_cons_zero, List.getElem?_cons_succ, kn, keep, frameOf, Heap.size, Heap.get, Eff.app, Heap.setOwn, putAt, AV.cells, fillA, loadA, takeA, mk, Eff.isAll, Eff.isNone, Eff.commutes, Eff.spares, okPair, apart, eqAgg, fits, LK.fits, allEq, aveq, eqk, mmA, beqT, wrapI, idxI, tdivI, tmodI, decT, decF, ibT, ibF, inT, inF, evScope_c, if_pos, if_neg, g0, g1, g2, g3, g4, g5, g6, g7, K.k20]
  exact Tr.app2 t1 (Tr.app2 t2 (Tr.seq_out (Tr.seq t3 (Tr.cond true (fun s h hp => hp.2.2.2.2.2.2.2.1) t4)) (by simp)))
end

theorem curves_ok (lot n c : Int) (hlt : lot < 9223372036854775808) : CallsTo tbl I30 14 [G lot, G n, G c] e0 (.bool true, [], false) := by
  by_cases hp : lotOk lot 0 ∧ planOk lot n c
  · obtain ⟨⟨h1, _⟩, ⟨h2, h3⟩, h4, h5⟩ := hp
    obtain ⟨N, rfl⟩ : ∃ N : Nat, n = N := ⟨n.toNat, by omega⟩
    exact v14_good I30 kn30'' (fun _ _ => rfl) h1 ⟨by omega, h3⟩ ⟨h4, by omega⟩
  · exact v14_bad I30 kn30'' (fun _ _ => rfl) lot n c hlt hp

end Go.Proofs.Ytlkgpcfhpeilhaa.Ev
