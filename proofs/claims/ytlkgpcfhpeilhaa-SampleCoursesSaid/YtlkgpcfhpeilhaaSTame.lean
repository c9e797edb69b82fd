/-
  What tame answers: a course of the lot, in new slices, whatever the two lists are. No condition.
-/
import Derived.Test.YtlkgpcfhpeilhaaSCrs
import Derived.Test.YtlkgpcfhpeilhaaSApp
import Derived.Test.YtlkgpcfhpeilhaaEvAny
set_option linter.unusedVariables false
set_option linter.unusedSimpArgs false
namespace Go.Proofs.Ytlkgpcfhpeilhaa.Ev
open Go Go.AEv

attribute [local simp] evFunc initS evOps_c evTrim_c evSkip_c evExit_c evRet_c evSeq_c evCond_c evBlock_c evDraw_c runOps_n runOps_c exec_n exec_g pure1_c act AOpd.ev T.get T.set T.put evBin evUn forceT_eq forceV_eq forceL_eq evRess evRes one keep runFP_n runFP_c app_none AV.flats AV.flat

def tA (A : List Int) (n : Nat) (i : Nat) : Int := if i < A.length then mdZ (A.getD i 0) (n + 2) - 1 else -1
def tB (R : List Int) (n : Nat) (i : Nat) : Int := if i + 1 = n then 1 else if i < R.length then 1 + mdZ (R.getD i 0) (n + 2) else 1
def tR (A R : List Int) (n : Nat) (i : Nat) : Int := if tA A n i + tB R n i < n + 1 then tA A n i + tB R n i else n + 1
theorem tA_in (A : List Int) (n i : Nat) : -1 ≤ tA A n i ∧ tA A n i ≤ n := by
  unfold tA
  have a1 := mdZ_lo (A.getD i 0) (n := (n : Int) + 2) (by omega)
  have a2 := mdZ_hi (A.getD i 0) (n := (n : Int) + 2) (by omega)
  split <;> omega
theorem tB_in (R : List Int) (n i : Nat) : 1 ≤ tB R n i ∧ tB R n i ≤ n + 2 := by
  unfold tB
  have a1 := mdZ_lo (R.getD i 0) (n := (n : Int) + 2) (by omega)
  have a2 := mdZ_hi (R.getD i 0) (n := (n : Int) + 2) (by omega)
  split
  · omega
  · split <;> omega
theorem tame_crs {lot : Int} (A R : List Int) (n : Nat) (h1 : 1 ≤ n) (h2 : (n : Int) ≤ lot) : crsOk lot (zl (tA A n) n) (zl (tR A R n) n) := by
  refine ⟨⟨by rw [zl_len]; omega, by rw [zl_len]; omega⟩, by rw [zl_len, zl_len], fun i hi => ?_, ?_⟩
  · rw [zl_len] at hi ⊢
    unfold stepOk
    rw [zl_at _ hi, zl_at _ hi]
    have a := tA_in A n i
    have b := tB_in R n i
    unfold tR
    split <;> omega
  · rw [zl_len, zl_at _ (by omega), zl_at _ (by omega)]
    have a := tA_in A n (n - 1)
    have b : tB R n (n - 1) = 1 := if_pos (by omega)
    unfold tR
    rw [b]
    split <;> omega

section
variable {lot : Int} {x y : AV} {A R : List Int} {n : Nat}
/-- Inside the loop. -/
def WT (H2 : Heap) (b : Nat) (x y : AV) (A R : List Int) (h : Heap) (La Lr : List Int) : Prop := LR H2 x A ∧ LR H2 y R ∧ ∃ xa xr, TwoL H2 b h xa xr La Lr
abbrev L43 : List Path := [[false], [true], [true, true], [false, false, false], [true, false, false], [false, true, false]]
theorem tame_5 (J : CallF) {b6 b : Nat} {H2 : Heap} {La Lr : List Int} (i : Nat) :
    Tr tbl J c43_o5 (fun s h => s.get [false] = x ∧ s.get [true] = y ∧ s.get [true, true] = .ptr b6 0 2 ∧ s.get [false, false, false] = G n ∧ s.get [true, false, false] = .ptr b 0 2 ∧ s.get [false, true, false] = G i ∧ WT H2 b x y A R h La Lr) .normal (fun s h => s.get [false] = x ∧ s.get [true] = y ∧ s.get [true, true] = .ptr b6 0 2 ∧ s.get [false, false, false] = G n ∧ s.get [true, false, false] = .ptr b 0 2 ∧ s.get [false, true, false] = G i ∧ s.get [true, true, false] = G (-1) ∧ s.get [false, false, true] = G 1 ∧ WT H2 b x y A R h La Lr) := by
  have t : Tr tbl J (c43_o5) (fun s h => s.get [false] = x ∧ s.get [true] = y ∧ s.get [true, true] = .ptr b6 0 2 ∧ s.get [false, false, false] = G n ∧ s.get [true, false, false] = .ptr b 0 2 ∧ s.get [false, true, false] = G i ∧ WT H2 b x y A R h La Lr) .normal (fun s h => s.get [false] = x ∧ s.get [true] = y ∧ s.get [true, true] = .ptr b6 0 2 ∧ s.get [false, false, false] = G n ∧ s.get [true, false, false] = .ptr b 0 2 ∧ s.get [false, true, false] = G i ∧ s.get [true, true, false] = G (-1) ∧ s.get [false, false, true] = G 1 ∧ WT H2 b x y A R h La Lr) := Tr.region fun s h hp => by
    obtain ⟨g0, g1, g2, g3, g4, g5, hh0⟩ := hp
    simp (disch := first | omega | exact getEq rfl | exact getO0 | exact Nat.le_of_ble_eq_true rfl) [c43_o5, came_some, goI, List.getElem?_cons_zero, List.getElem?_cons_succ, kn, keep, app_growP, app_noneP, plus_N, plus_at0, put_plus0, upd_N, upd_size, putAt, AV.cells, fillA, loadA, takeA, mk, Eff.isAll, Eff.isNone, Eff.commutes, Eff.spares, okPair, apart, eqAgg, fits, LK.fits, allEq, aveq, eqk, mmA, beqT, wrapI, idxI, tdivI, tmodI, decT, decF, ibT, ibF, inT, inF, evScope_c, if_pos, if_neg, g0, g1, g2, g3, g4, g5, hh0]
  exact t
theorem tame_6 (J : CallF) (K : Kn J) {b6 b : Nat} {H2 : Heap} {La Lr : List Int} (i : Nat) (hn : n ≤ 36) :
    Tr tbl J (.seq c43_o6 (.cond (.s [false, true, false, true]) c43_o7 .skip)) (fun s h => s.get [false] = x ∧ s.get [true] = y ∧ s.get [true, true] = .ptr b6 0 2 ∧ s.get [false, false, false] = G n ∧ s.get [true, false, false] = .ptr b 0 2 ∧ s.get [false, true, false] = G i ∧ s.get [true, true, false] = G (-1) ∧ s.get [false, false, true] = G 1 ∧ WT H2 b x y A R h La Lr) .normal (fun s h => s.get [false] = x ∧ s.get [true] = y ∧ s.get [true, true] = .ptr b6 0 2 ∧ s.get [false, false, false] = G n ∧ s.get [true, false, false] = .ptr b 0 2 ∧ s.get [false, true, false] = G i ∧ s.get [true, true, false] = G (tA A n i) ∧ s.get [false, false, true] = G 1 ∧ WT H2 b x y A R h La Lr) := by
  have a1 := mdZ_lo (A.getD i 0) (n := (n : Int) + 2) (by omega)
  have a2 := mdZ_hi (A.getD i 0) (n := (n : Int) + 2) (by omega)
  by_cases hi : i < A.length
  · have e : tA A n i = mdZ (A.getD i 0) (n + 2) - 1 := if_pos hi
    have hg : (gs A)[i]? = some (G (A.getD i 0)) := by simp [List.getElem?_eq_getElem hi, List.getD_eq_getElem?_getD]
    rw [e]
    generalize A.getD i 0 = z at *
    have t : Tr tbl J ((.seq c43_o6 (.cond (.s [false, true, false, true]) c43_o7 .skip))) (fun s h => s.get [false] = x ∧ s.get [true] = y ∧ s.get [true, true] = .ptr b6 0 2 ∧ s.get [false, false, false] = G n ∧ s.get [true, false, false] = .ptr b 0 2 ∧ s.get [false, true, false] = G i ∧ s.get [true, true, false] = G (-1) ∧ s.get [false, false, true] = G 1 ∧ WT H2 b x y A R h La Lr) .normal (fun s h => s.get [false] = x ∧ s.get [true] = y ∧ s.get [true, true] = .ptr b6 0 2 ∧ s.get [false, false, false] = G n ∧ s.get [true, false, false] = .ptr b 0 2 ∧ s.get [false, true, false] = G i ∧ s.get [true, true, false] = G (mdZ z (n + 2) - 1) ∧ s.get [false, false, true] = G 1 ∧ WT H2 b x y A R h La Lr) := Tr.region fun s h hp => by
      obtain ⟨g0, g1, g2, g3, g4, g5, g6, g7, hh0⟩ := hp
      obtain ⟨q1, q2, xa, xr, t⟩ := id hh0
      rcases (q1.kp t.k).cases with ⟨_, rfl⟩ | ⟨_, rfl⟩ | ⟨bx, v, rfl, g⟩
      · simp at hi
      · simp at hi
      · simp (disch := first | omega | exact getEq rfl | exact getO0 | exact Nat.le_of_ble_eq_true rfl) [c43_o6, c43_o7, came_some, goI, List.getElem?_cons_zero, List.getElem?_cons_succ, kn, keep, app_growP, app_noneP, plus_N, plus_at0, put_plus0, upd_N, upd_size, putAt, AV.cells, fillA, loadA, takeA, mk, Eff.isAll, Eff.isNone, Eff.commutes, Eff.spares, okPair, apart, eqAgg, fits, LK.fits, allEq, aveq, eqk, mmA, beqT, wrapI, idxI, tdivI, tmodI, decT, decF, ibT, ibF, inT, inF, evScope_c, if_pos, if_neg, g0, g1, g2, g3, g4, g5, g6, g7, hh0, g, hg, K.k24, idxI]
    exact t
  · have e : tA A n i = -1 := if_neg hi
    rw [e]
    have t : Tr tbl J ((.seq c43_o6 (.cond (.s [false, true, false, true]) c43_o7 .skip))) (fun s h => s.get [false] = x ∧ s.get [true] = y ∧ s.get [true, true] = .ptr b6 0 2 ∧ s.get [false, false, false] = G n ∧ s.get [true, false, false] = .ptr b 0 2 ∧ s.get [false, true, false] = G i ∧ s.get [true, true, false] = G (-1) ∧ s.get [false, false, true] = G 1 ∧ WT H2 b x y A R h La Lr) .normal (fun s h => s.get [false] = x ∧ s.get [true] = y ∧ s.get [true, true] = .ptr b6 0 2 ∧ s.get [false, false, false] = G n ∧ s.get [true, false, false] = .ptr b 0 2 ∧ s.get [false, true, false] = G i ∧ s.get [true, true, false] = G (-1) ∧ s.get [false, false, true] = G 1 ∧ WT H2 b x y A R h La Lr) := Tr.region fun s h hp => by
      obtain ⟨g0, g1, g2, g3, g4, g5, g6, g7, hh0⟩ := hp
      obtain ⟨q1, q2, xa, xr, t⟩ := id hh0
      rcases (q1.kp t.k).cases with ⟨rfl, rfl⟩ | ⟨rfl, rfl⟩ | ⟨bx, v, rfl, g⟩
      · simp (disch := first | omega | exact getEq rfl | exact getO0 | exact Nat.le_of_ble_eq_true rfl) [c43_o6, came_some, goI, List.getElem?_cons_zero, List.getElem?_cons_succ, kn, keep, app_growP, app_noneP, plus_N, plus_at0, put_plus0, upd_N, upd_size, putAt, AV.cells, fillA, loadA, takeA, mk, Eff.isAll, Eff.isNone, Eff.commutes, Eff.spares, okPair, apart, eqAgg, fits, LK.fits, allEq, aveq, eqk, mmA, beqT, wrapI, idxI, tdivI, tmodI, decT, decF, ibT, ibF, inT, inF, evScope_c, if_pos, if_neg, g0, g1, g2, g3, g4, g5, g6, g7, hh0]
      · simp (disch := first | omega | exact getEq rfl | exact getO0 | exact Nat.le_of_ble_eq_true rfl) [c43_o6, came_some, goI, List.getElem?_cons_zero, List.getElem?_cons_succ, kn, keep, app_growP, app_noneP, plus_N, plus_at0, put_plus0, upd_N, upd_size, putAt, AV.cells, fillA, loadA, takeA, mk, Eff.isAll, Eff.isNone, Eff.commutes, Eff.spares, okPair, apart, eqAgg, fits, LK.fits, allEq, aveq, eqk, mmA, beqT, wrapI, idxI, tdivI, tmodI, decT, decF, ibT, ibF, inT, inF, evScope_c, if_pos, if_neg, g0, g1, g2, g3, g4, g5, g6, g7, hh0]
      · simp (disch := first | omega | exact getEq rfl | exact getO0 | exact Nat.le_of_ble_eq_true rfl) [c43_o6, came_some, goI, List.getElem?_cons_zero, List.getElem?_cons_succ, kn, keep, app_growP, app_noneP, plus_N, plus_at0, put_plus0, upd_N, upd_size, putAt, AV.cells, fillA, loadA, takeA, mk, Eff.isAll, Eff.isNone, Eff.commutes, Eff.spares, okPair, apart, eqAgg, fits, LK.fits, allEq, aveq, eqk, mmA, beqT, wrapI, idxI, tdivI, tmodI, decT, decF, ibT, ibF, inT, inF, evScope_c, if_pos, if_neg, g0, g1, g2, g3, g4, g5, g6, g7, hh0]
    exact t
theorem tame_8 (J : CallF) (K : Kn J) {b6 b : Nat} {H2 : Heap} {La Lr : List Int} (z10 : Int) (i : Nat) (hi : i < n) (hn : n ≤ 36) :
    Tr tbl J (.seq (.seq c43_o8 (.cond (.s [false, true, true, false, false]) c43_o9 .skip)) (.seq c43_o10 (.cond (.s [false, true, false, false, true]) c43_o11 .skip))) (fun s h => s.get [false] = x ∧ s.get [true] = y ∧ s.get [true, true] = .ptr b6 0 2 ∧ s.get [false, false, false] = G n ∧ s.get [true, false, false] = .ptr b 0 2 ∧ s.get [false, true, false] = G i ∧ s.get [true, true, false] = G z10 ∧ s.get [false, false, true] = G 1 ∧ WT H2 b x y A R h La Lr) .normal (fun s h => s.get [false] = x ∧ s.get [true] = y ∧ s.get [true, true] = .ptr b6 0 2 ∧ s.get [false, false, false] = G n ∧ s.get [true, false, false] = .ptr b 0 2 ∧ s.get [false, true, false] = G i ∧ s.get [true, true, false] = G z10 ∧ s.get [false, false, true] = G (tB R n i) ∧ WT H2 b x y A R h La Lr) := by
  have a1 := mdZ_lo (R.getD i 0) (n := (n : Int) + 2) (by omega)
  have a2 := mdZ_hi (R.getD i 0) (n := (n : Int) + 2) (by omega)
  have tb : Tr tbl J (.seq c43_o8 (.cond (.s [false, true, true, false, false]) c43_o9 .skip)) (fun s h => s.get [false] = x ∧ s.get [true] = y ∧ s.get [true, true] = .ptr b6 0 2 ∧ s.get [false, false, false] = G n ∧ s.get [true, false, false] = .ptr b 0 2 ∧ s.get [false, true, false] = G i ∧ s.get [true, true, false] = G z10 ∧ s.get [false, false, true] = G 1 ∧ WT H2 b x y A R h La Lr) .normal (fun s h => s.get [false] = x ∧ s.get [true] = y ∧ s.get [true, true] = .ptr b6 0 2 ∧ s.get [false, false, false] = G n ∧ s.get [true, false, false] = .ptr b 0 2 ∧ s.get [false, true, false] = G i ∧ s.get [true, true, false] = G z10 ∧ s.get [false, false, true] = G (if i < R.length then 1 + mdZ (R.getD i 0) (n + 2) else 1) ∧ WT H2 b x y A R h La Lr) := by
    by_cases hr : i < R.length
    · have hg : (gs R)[i]? = some (G (R.getD i 0)) := by simp [List.getElem?_eq_getElem hr, List.getD_eq_getElem?_getD]
      rw [if_pos hr]
      generalize R.getD i 0 = z at *
      have t : Tr tbl J ((.seq c43_o8 (.cond (.s [false, true, true, false, false]) c43_o9 .skip))) (fun s h => s.get [false] = x ∧ s.get [true] = y ∧ s.get [true, true] = .ptr b6 0 2 ∧ s.get [false, false, false] = G n ∧ s.get [true, false, false] = .ptr b 0 2 ∧ s.get [false, true, false] = G i ∧ s.get [true, true, false] = G z10 ∧ s.get [false, false, true] = G 1 ∧ WT H2 b x y A R h La Lr) .normal (fun s h => s.get [false] = x ∧ s.get [true] = y ∧ s.get [true, true] = .ptr b6 0 2 ∧ s.get [false, false, false] = G n ∧ s.get [true, false, false] = .ptr b 0 2 ∧ s.get [false, true, false] = G i ∧ s.get [true, true, false] = G z10 ∧ s.get [false, false, true] = G (1 + mdZ z (n + 2)) ∧ WT H2 b x y A R h La Lr) := Tr.region fun s h hp => by
        obtain ⟨g0, g1, g2, g3, g4, g5, g6, g7, hh0⟩ := hp
        obtain ⟨q1, q2, xa, xr, t⟩ := id hh0
        rcases (q2.kp t.k).cases with ⟨_, rfl⟩ | ⟨_, rfl⟩ | ⟨bx, v, rfl, g⟩
        · simp at hr
        · simp at hr
        · simp (disch := first | omega | exact getEq rfl | exact getO0 | exact Nat.le_of_ble_eq_true rfl) [c43_o8, c43_o9, came_some, goI, List.getElem?_cons_zero, List.getElem?_cons_succ, kn, keep, app_growP, app_noneP, plus_N, plus_at0, put_plus0, upd_N, upd_size, putAt, AV.cells, fillA, loadA, takeA, mk, Eff.isAll, Eff.isNone, Eff.commutes, Eff.spares, okPair, apart, eqAgg, fits, LK.fits, allEq, aveq, eqk, mmA, beqT, wrapI, idxI, tdivI, tmodI, decT, decF, ibT, ibF, inT, inF, evScope_c, if_pos, if_neg, g0, g1, g2, g3, g4, g5, g6, g7, hh0, g, hg, K.k24]
      exact t
    · rw [if_neg hr]
      have t : Tr tbl J ((.seq c43_o8 (.cond (.s [false, true, true, false, false]) c43_o9 .skip))) (fun s h => s.get [false] = x ∧ s.get [true] = y ∧ s.get [true, true] = .ptr b6 0 2 ∧ s.get [false, false, false] = G n ∧ s.get [true, false, false] = .ptr b 0 2 ∧ s.get [false, true, false] = G i ∧ s.get [true, true, false] = G z10 ∧ s.get [false, false, true] = G 1 ∧ WT H2 b x y A R h La Lr) .normal (fun s h => s.get [false] = x ∧ s.get [true] = y ∧ s.get [true, true] = .ptr b6 0 2 ∧ s.get [false, false, false] = G n ∧ s.get [true, false, false] = .ptr b 0 2 ∧ s.get [false, true, false] = G i ∧ s.get [true, true, false] = G z10 ∧ s.get [false, false, true] = G 1 ∧ WT H2 b x y A R h La Lr) := Tr.region fun s h hp => by
        obtain ⟨g0, g1, g2, g3, g4, g5, g6, g7, hh0⟩ := hp
        obtain ⟨q1, q2, xa, xr, t⟩ := id hh0
        rcases (q2.kp t.k).cases with ⟨rfl, rfl⟩ | ⟨rfl, rfl⟩ | ⟨bx, v, rfl, g⟩
        · simp (disch := first | omega | exact getEq rfl | exact getO0 | exact Nat.le_of_ble_eq_true rfl) [c43_o8, came_some, goI, List.getElem?_cons_zero, List.getElem?_cons_succ, kn, keep, app_growP, app_noneP, plus_N, plus_at0, put_plus0, upd_N, upd_size, putAt, AV.cells, fillA, loadA, takeA, mk, Eff.isAll, Eff.isNone, Eff.commutes, Eff.spares, okPair, apart, eqAgg, fits, LK.fits, allEq, aveq, eqk, mmA, beqT, wrapI, idxI, tdivI, tmodI, decT, decF, ibT, ibF, inT, inF, evScope_c, if_pos, if_neg, g0, g1, g2, g3, g4, g5, g6, g7, hh0]
        · simp (disch := first | omega | exact getEq rfl | exact getO0 | exact Nat.le_of_ble_eq_true rfl) [c43_o8, came_some, goI, List.getElem?_cons_zero, List.getElem?_cons_succ, kn, keep, app_growP, app_noneP, plus_N, plus_at0, put_plus0, upd_N, upd_size, putAt, AV.cells, fillA, loadA, takeA, mk, Eff.isAll, Eff.isNone, Eff.commutes, Eff.spares, okPair, apart, eqAgg, fits, LK.fits, allEq, aveq, eqk, mmA, beqT, wrapI, idxI, tdivI, tmodI, decT, decF, ibT, ibF, inT, inF, evScope_c, if_pos, if_neg, g0, g1, g2, g3, g4, g5, g6, g7, hh0]
        · simp (disch := first | omega | exact getEq rfl | exact getO0 | exact Nat.le_of_ble_eq_true rfl) [c43_o8, came_some, goI, List.getElem?_cons_zero, List.getElem?_cons_succ, kn, keep, app_growP, app_noneP, plus_N, plus_at0, put_plus0, upd_N, upd_size, putAt, AV.cells, fillA, loadA, takeA, mk, Eff.isAll, Eff.isNone, Eff.commutes, Eff.spares, okPair, apart, eqAgg, fits, LK.fits, allEq, aveq, eqk, mmA, beqT, wrapI, idxI, tdivI, tmodI, decT, decF, ibT, ibF, inT, inF, evScope_c, if_pos, if_neg, g0, g1, g2, g3, g4, g5, g6, g7, hh0]
      exact t
  refine Tr.seq tb ?_
  by_cases he : i + 1 = n
  · have e : tB R n i = 1 := if_pos he
    rw [e]
    generalize (if i < R.length then 1 + mdZ (R.getD i 0) (n + 2) else 1) = z
    have t : Tr tbl J ((.seq c43_o10 (.cond (.s [false, true, false, false, true]) c43_o11 .skip))) (fun s h => s.get [false] = x ∧ s.get [true] = y ∧ s.get [true, true] = .ptr b6 0 2 ∧ s.get [false, false, false] = G n ∧ s.get [true, false, false] = .ptr b 0 2 ∧ s.get [false, true, false] = G i ∧ s.get [true, true, false] = G z10 ∧ s.get [false, false, true] = G z ∧ WT H2 b x y A R h La Lr) .normal (fun s h => s.get [false] = x ∧ s.get [true] = y ∧ s.get [true, true] = .ptr b6 0 2 ∧ s.get [false, false, false] = G n ∧ s.get [true, false, false] = .ptr b 0 2 ∧ s.get [false, true, false] = G i ∧ s.get [true, true, false] = G z10 ∧ s.get [false, false, true] = G 1 ∧ WT H2 b x y A R h La Lr) := Tr.region fun s h hp => by
      obtain ⟨g0, g1, g2, g3, g4, g5, g6, g7, hh0⟩ := hp
      simp (disch := first | omega | exact getEq rfl | exact getO0 | exact Nat.le_of_ble_eq_true rfl) [c43_o10, c43_o11, came_some, goI, List.getElem?_cons_zero, List.getElem?_cons_succ, kn, keep, app_growP, app_noneP, plus_N, plus_at0, put_plus0, upd_N, upd_size, putAt, AV.cells, fillA, loadA, takeA, mk, Eff.isAll, Eff.isNone, Eff.commutes, Eff.spares, okPair, apart, eqAgg, fits, LK.fits, allEq, aveq, eqk, mmA, beqT, wrapI, idxI, tdivI, tmodI, decT, decF, ibT, ibF, inT, inF, evScope_c, if_pos, if_neg, g0, g1, g2, g3, g4, g5, g6, g7, hh0]
    exact t
  · have e : tB R n i = if i < R.length then 1 + mdZ (R.getD i 0) (n + 2) else 1 := if_neg he
    rw [e]
    generalize (if i < R.length then 1 + mdZ (R.getD i 0) (n + 2) else 1) = z
    have t : Tr tbl J ((.seq c43_o10 (.cond (.s [false, true, false, false, true]) c43_o11 .skip))) (fun s h => s.get [false] = x ∧ s.get [true] = y ∧ s.get [true, true] = .ptr b6 0 2 ∧ s.get [false, false, false] = G n ∧ s.get [true, false, false] = .ptr b 0 2 ∧ s.get [false, true, false] = G i ∧ s.get [true, true, false] = G z10 ∧ s.get [false, false, true] = G z ∧ WT H2 b x y A R h La Lr) .normal (fun s h => s.get [false] = x ∧ s.get [true] = y ∧ s.get [true, true] = .ptr b6 0 2 ∧ s.get [false, false, false] = G n ∧ s.get [true, false, false] = .ptr b 0 2 ∧ s.get [false, true, false] = G i ∧ s.get [true, true, false] = G z10 ∧ s.get [false, false, true] = G z ∧ WT H2 b x y A R h La Lr) := Tr.region fun s h hp => by
      obtain ⟨g0, g1, g2, g3, g4, g5, g6, g7, hh0⟩ := hp
      simp (disch := first | omega | exact getEq rfl | exact getO0 | exact Nat.le_of_ble_eq_true rfl) [c43_o10, came_some, goI, List.getElem?_cons_zero, List.getElem?_cons_succ, kn, keep, app_growP, app_noneP, plus_N, plus_at0, put_plus0, upd_N, upd_size, putAt, AV.cells, fillA, loadA, takeA, mk, Eff.isAll, Eff.isNone, Eff.commutes, Eff.spares, okPair, apart, eqAgg, fits, LK.fits, allEq, aveq, eqk, mmA, beqT, wrapI, idxI, tdivI, tmodI, decT, decF, ibT, ibF, inT, inF, evScope_c, if_pos, if_neg, g0, g1, g2, g3, g4, g5, g6, g7, hh0]
    exact t
theorem tame_12 (J : CallF) {b6 b : Nat} {H2 : Heap} {La Lr : List Int} (z10 z11 : Int) (i : Nat) (hn : n ≤ 36) (hz : -1 ≤ z10 ∧ z10 ≤ 40) (hz' : 1 ≤ z11 ∧ z11 ≤ 40) (hla : La.length ≤ 1000000) (hlr : Lr.length ≤ 1000000) :
    Tr tbl J (.seq c43_o12 c43_o13) (fun s h => s.get [false] = x ∧ s.get [true] = y ∧ s.get [true, true] = .ptr b6 0 2 ∧ s.get [false, false, false] = G n ∧ s.get [true, false, false] = .ptr b 0 2 ∧ s.get [false, true, false] = G i ∧ s.get [true, true, false] = G z10 ∧ s.get [false, false, true] = G z11 ∧ WT H2 b x y A R h La Lr) .normal (fun s h => s.get [false] = x ∧ s.get [true] = y ∧ s.get [true, true] = .ptr b6 0 2 ∧ s.get [false, false, false] = G n ∧ s.get [true, false, false] = .ptr b 0 2 ∧ s.get [false, true, false] = G i ∧ WT H2 b x y A R h (La ++ [z10]) (Lr ++ [if z10 + z11 < n + 1 then z10 + z11 else n + 1])) := by
  have tc : Tr tbl J (c43_o12) (fun s h => s.get [false] = x ∧ s.get [true] = y ∧ s.get [true, true] = .ptr b6 0 2 ∧ s.get [false, false, false] = G n ∧ s.get [true, false, false] = .ptr b 0 2 ∧ s.get [false, true, false] = G i ∧ s.get [true, true, false] = G z10 ∧ s.get [false, false, true] = G z11 ∧ WT H2 b x y A R h La Lr) .normal (fun s h => s.get [false] = x ∧ s.get [true] = y ∧ s.get [true, true] = .ptr b6 0 2 ∧ s.get [false, false, false] = G n ∧ s.get [true, false, false] = .ptr b 0 2 ∧ s.get [false, true, false] = G i ∧ s.get [true, true, false] = G z10 ∧ s.get [false, false, true] = G z11 ∧ WT H2 b x y A R h (La ++ [z10]) Lr) := Tr.region fun s h hp => by
    obtain ⟨g0, g1, g2, g3, g4, g5, g6, g7, hh0⟩ := hp
    obtain ⟨u1, u2, xa, xr, t⟩ := id hh0
    obtain ⟨x1, e, h2, q1, q2, q3, q4, q5⟩ := t.appA z10 hla
    have g := t.g
    have q6 : WT H2 b x y A R (h2.upd b (.cells 0 2 [x1, xr])) (La ++ [z10]) Lr := ⟨u1, u2, _, _, q5⟩
    have q7 := plus_keep [.cells 1 1 [G z10]] g (by simp)
    obtain ⟨q0, m0, rfl⟩ := q5.a.sl (by simp)
    simp (disch := first | omega | exact getEq rfl | exact getO0 | exact Nat.le_of_ble_eq_true rfl) [c43_o12, came_some, goI, List.getElem?_cons_zero, List.getElem?_cons_succ, kn, keep, app_growP, app_noneP, plus_N, plus_at0, put_plus0, upd_N, upd_size, putAt, AV.cells, fillA, loadA, takeA, mk, Eff.isAll, Eff.isNone, Eff.commutes, Eff.spares, okPair, apart, eqAgg, fits, LK.fits, allEq, aveq, eqk, mmA, beqT, wrapI, idxI, tdivI, tmodI, decT, decF, ibT, ibF, inT, inF, evScope_c, if_pos, if_neg, g0, g1, g2, g3, g4, g5, g6, g7, hh0, elems, rdOf, g, q1, q2, q3, q4, q6, q7]
  obtain ⟨z, hz⟩ : ∃ z, (if z10 + z11 < (n : Int) + 1 then z10 + z11 else n + 1) = z := ⟨_, rfl⟩
  rw [hz]
  have td : Tr tbl J (c43_o13) (fun s h => s.get [false] = x ∧ s.get [true] = y ∧ s.get [true, true] = .ptr b6 0 2 ∧ s.get [false, false, false] = G n ∧ s.get [true, false, false] = .ptr b 0 2 ∧ s.get [false, true, false] = G i ∧ s.get [true, true, false] = G z10 ∧ s.get [false, false, true] = G z11 ∧ WT H2 b x y A R h (La ++ [z10]) Lr) .normal (fun s h => s.get [false] = x ∧ s.get [true] = y ∧ s.get [true, true] = .ptr b6 0 2 ∧ s.get [false, false, false] = G n ∧ s.get [true, false, false] = .ptr b 0 2 ∧ s.get [false, true, false] = G i ∧ WT H2 b x y A R h (La ++ [z10]) (Lr ++ [z])) := Tr.region fun s h hp => by
    obtain ⟨g0, g1, g2, g3, g4, g5, g6, g7, hh0⟩ := hp
    obtain ⟨u1, u2, xa, xr, t⟩ := id hh0
    obtain ⟨x1, e, h2, q1, q2, q3, q4, q5⟩ := t.appR z hlr
    have g := t.g
    have q6 : WT H2 b x y A R (h2.upd b (.cells 0 2 [xa, x1])) (La ++ [z10]) (Lr ++ [z]) := ⟨u1, u2, _, _, q5⟩
    have q7 := plus_keep [.cells 1 1 [G z]] g (by simp)
    obtain ⟨q0, m0, rfl⟩ := q5.r.sl (by simp)
    simp (disch := first | omega | exact getEq rfl | exact getO0 | exact Nat.le_of_ble_eq_true rfl) [c43_o13, came_some, goI, List.getElem?_cons_zero, List.getElem?_cons_succ, kn, keep, app_growP, app_noneP, plus_N, plus_at0, put_plus0, upd_N, upd_size, putAt, AV.cells, fillA, loadA, takeA, mk, Eff.isAll, Eff.isNone, Eff.commutes, Eff.spares, okPair, apart, eqAgg, fits, LK.fits, allEq, aveq, eqk, mmA, beqT, wrapI, idxI, tdivI, tmodI, decT, decF, ibT, ibF, inT, inF, evScope_c, if_pos, if_neg, g0, g1, g2, g3, g4, g5, g6, g7, hh0, elems, rdOf, g, hz, q1, q2, q3, q4, q6, q7]
  exact Tr.seq tc td

theorem tame_loop (J : CallF) (K : Kn J) {b6 b : Nat} {H2 : Heap} (hn : n ≤ 36) :
    Tr tbl J (.seq c43_o3 (.block 0 c43_l0)) (fun s h => s.get [false] = x ∧ s.get [true] = y ∧ s.get [true, true] = .ptr b6 0 2 ∧ s.get [false, false, false] = G n ∧ s.get [true, false, false] = .ptr b 0 2 ∧ WT H2 b x y A R h [] []) .normal (fun s h => s.get [true, true] = .ptr b6 0 2 ∧ s.get [true, false, false] = .ptr b 0 2 ∧ WT H2 b x y A R h (zl (tA A n) n) (zl (tR A R n) n)) := by
  have t0 : Tr tbl J (c43_o3) (fun s h => s.get [false] = x ∧ s.get [true] = y ∧ s.get [true, true] = .ptr b6 0 2 ∧ s.get [false, false, false] = G n ∧ s.get [true, false, false] = .ptr b 0 2 ∧ WT H2 b x y A R h [] []) .normal (fun s h => s.get [false] = x ∧ s.get [true] = y ∧ s.get [true, true] = .ptr b6 0 2 ∧ s.get [false, false, false] = G n ∧ s.get [true, false, false] = .ptr b 0 2 ∧ s.get [false, true, false] = G ((0 : Nat) : Int) ∧ WT H2 b x y A R h [] []) := Tr.region fun s h hp => by
    obtain ⟨g0, g1, g2, g3, g4, hh0⟩ := hp
    simp (disch := first | omega | exact getEq rfl | exact getO0 | exact Nat.le_of_ble_eq_true rfl) [c43_o3, came_some, goI, List.getElem?_cons_zero, List.getElem?_cons_succ, kn, keep, app_growP, app_noneP, plus_N, plus_at0, put_plus0, upd_N, upd_size, putAt, AV.cells, fillA, loadA, takeA, mk, Eff.isAll, Eff.isNone, Eff.commutes, Eff.spares, okPair, apart, eqAgg, fits, LK.fits, allEq, aveq, eqk, mmA, beqT, wrapI, idxI, tdivI, tmodI, decT, decF, ibT, ibF, inT, inF, evScope_c, if_pos, if_neg, g0, g1, g2, g3, g4, hh0]
  have t1 : Tr tbl J ((.trim L43 c43_b0)) (fun s h => s.get [false] = x ∧ s.get [true] = y ∧ s.get [true, true] = .ptr b6 0 2 ∧ s.get [false, false, false] = G n ∧ s.get [true, false, false] = .ptr b 0 2 ∧ s.get [false, true, false] = G n ∧ WT H2 b x y A R h (zl (tA A n) n) (zl (tR A R n) n)) (.exit 0) (fun s h => s.get [true, true] = .ptr b6 0 2 ∧ s.get [true, false, false] = .ptr b 0 2 ∧ WT H2 b x y A R h (zl (tA A n) n) (zl (tR A R n) n)) := Tr.region fun s h hp => by
    obtain ⟨g0, g1, g2, g3, g4, g5, hh0⟩ := hp
    simp (disch := first | omega | exact getEq rfl | exact getO0 | exact Nat.le_of_ble_eq_true rfl) [c43_b0, c43_o4, came_some, goI, List.getElem?_cons_zero, List.getElem?_cons_succ, kn, keep, app_growP, app_noneP, plus_N, plus_at0, put_plus0, upd_N, upd_size, putAt, AV.cells, fillA, loadA, takeA, mk, Eff.isAll, Eff.isNone, Eff.commutes, Eff.spares, okPair, apart, eqAgg, fits, LK.fits, allEq, aveq, eqk, mmA, beqT, wrapI, idxI, tdivI, tmodI, decT, decF, ibT, ibF, inT, inF, evScope_c, if_pos, if_neg, g0, g1, g2, g3, g4, g5, hh0]
  refine Tr.seq t0 (Tr.block (Tr.rounds (P := fun j => (fun s h => s.get [false] = x ∧ s.get [true] = y ∧ s.get [true, true] = .ptr b6 0 2 ∧ s.get [false, false, false] = G n ∧ s.get [true, false, false] = .ptr b 0 2 ∧ s.get [false, true, false] = G j ∧ WT H2 b x y A R h (zl (tA A n) j) (zl (tR A R n) j))) (M := n) (fun j hj => ?_) t1 (by simp) 0 (by omega)))
  have ta : Tr tbl J ((.trim L43 (.seq c43_o4 (.cond (.s [false, false, true, false]) .skip (.exit 0))))) (fun s h => s.get [false] = x ∧ s.get [true] = y ∧ s.get [true, true] = .ptr b6 0 2 ∧ s.get [false, false, false] = G n ∧ s.get [true, false, false] = .ptr b 0 2 ∧ s.get [false, true, false] = G j ∧ WT H2 b x y A R h (zl (tA A n) j) (zl (tR A R n) j)) .normal (fun s h => s.get [false] = x ∧ s.get [true] = y ∧ s.get [true, true] = .ptr b6 0 2 ∧ s.get [false, false, false] = G n ∧ s.get [true, false, false] = .ptr b 0 2 ∧ s.get [false, true, false] = G j ∧ WT H2 b x y A R h (zl (tA A n) j) (zl (tR A R n) j)) := Tr.region fun s h hp => by
    obtain ⟨g0, g1, g2, g3, g4, g5, hh0⟩ := hp
    simp (disch := first | omega | exact getEq rfl | exact getO0 | exact Nat.le_of_ble_eq_true rfl) [c43_o4, came_some, goI, List.getElem?_cons_zero, List.getElem?_cons_succ, kn, keep, app_growP, app_noneP, plus_N, plus_at0, put_plus0, upd_N, upd_size, putAt, AV.cells, fillA, loadA, takeA, mk, Eff.isAll, Eff.isNone, Eff.commutes, Eff.spares, okPair, apart, eqAgg, fits, LK.fits, allEq, aveq, eqk, mmA, beqT, wrapI, idxI, tdivI, tmodI, decT, decF, ibT, ibF, inT, inF, evScope_c, if_pos, if_neg, g0, g1, g2, g3, g4, g5, hh0]
  have ea : zl (tA A n) (j + 1) = zl (tA A n) j ++ [tA A n j] := rfl
  have er : zl (tR A R n) (j + 1) = zl (tR A R n) j ++ [if tA A n j + tB R n j < n + 1 then tA A n j + tB R n j else n + 1] := rfl
  rw [ea, er]
  have b1 := tA_in A n j
  have b2 := tB_in R n j
  have tb := Tr.seq (tame_5 (x := x) (y := y) (A := A) (R := R) (n := n) J (b6 := b6) (b := b) (H2 := H2) (La := zl (tA A n) j) (Lr := zl (tR A R n) j) j) (Tr.seq (tame_6 J K j hn) (Tr.app2 (tame_8 J K (tA A n j) j (by omega) hn) (tame_12 J (tA A n j) (tB R n j) j hn (by omega) (by omega) (by rw [zl_len]; omega) (by rw [zl_len]; omega))))
  generalize zl (tA A n) j ++ [tA A n j] = La' at *
  generalize (if tA A n j + tB R n j < (n : Int) + 1 then tA A n j + tB R n j else n + 1) = z at *
  have te : Tr tbl J (c43_o14) (fun s h => s.get [false] = x ∧ s.get [true] = y ∧ s.get [true, true] = .ptr b6 0 2 ∧ s.get [false, false, false] = G n ∧ s.get [true, false, false] = .ptr b 0 2 ∧ s.get [false, true, false] = G j ∧ WT H2 b x y A R h La' (zl (tR A R n) j ++ [z])) .normal (fun s h => s.get [false] = x ∧ s.get [true] = y ∧ s.get [true, true] = .ptr b6 0 2 ∧ s.get [false, false, false] = G n ∧ s.get [true, false, false] = .ptr b 0 2 ∧ s.get [false, true, false] = G ((j + 1 : Nat) : Int) ∧ WT H2 b x y A R h La' (zl (tR A R n) j ++ [z])) := Tr.region fun s h hp => by
    obtain ⟨g0, g1, g2, g3, g4, g5, hh0⟩ := hp
    simp (disch := first | omega | exact getEq rfl | exact getO0 | exact Nat.le_of_ble_eq_true rfl) [c43_o14, came_some, goI, List.getElem?_cons_zero, List.getElem?_cons_succ, kn, keep, app_growP, app_noneP, plus_N, plus_at0, put_plus0, upd_N, upd_size, putAt, AV.cells, fillA, loadA, takeA, mk, Eff.isAll, Eff.isNone, Eff.commutes, Eff.spares, okPair, apart, eqAgg, fits, LK.fits, allEq, aveq, eqk, mmA, beqT, wrapI, idxI, tdivI, tmodI, decT, decF, ibT, ibF, inT, inF, evScope_c, if_pos, if_neg, g0, g1, g2, g3, g4, g5, hh0]
  exact Tr.trim_seq ta (Tr.seq (Tr.block_out tb (by simp)) te)
end

/-- What tame leaves: a course of the lot. -/
def Good43 (args : List AV) (h : Heap) (v : AV) (own : List AObj) : Prop := ∀ lot x y A R, args = [G lot, x, y] → LR h x A → LR h y R → 1 ≤ lot → lot ≤ 36 →
  ∃ xa xr La Lr, v = .agg [xa, xr] ∧ listOf (h.plus own) xa = some La ∧ listOf (h.plus own) xr = some Lr ∧ crsOk lot La Lr ∧ own ≠ []
theorem c43_ok (J : CallF) (K : Kn J) (hJ : ∀ a h, J 43 a h = none) (h : Heap) {lot : Int} {x y : AV} {A R : List Int} (hx : LR h x A) (hy : LR h y R) (hl : 1 ≤ lot ∧ lot ≤ 36) : ∃ v own, CallsTo tbl J 43 [G lot, x, y] h (v, own, false) ∧ ∃ xa xr La Lr, v = .agg [xa, xr] ∧ listOf (h.plus own) xa = some La ∧ listOf (h.plus own) xr = some Lr ∧ crsOk lot La Lr ∧ own ≠ [] := by
  refine Tr.fnx (cf := c43) (e := .ret) (s := T.set (T.set (T.set .leaf [] (G lot)) [false] x) [true] y) (by decide) rfl (hJ _ _) rfl rfl (by simp) ?_
  obtain ⟨n, hn⟩ : ∃ n : Nat, (n : Int) = if (if lot < A.length then lot else A.length) > 1 then (if lot < A.length then lot else A.length) else 1 := ⟨(if (if lot < A.length then lot else A.length) > 1 then (if lot < A.length then lot else A.length) else 1 : Int).toNat, by split <;> split <;> omega⟩
  have hn1 : 1 ≤ n ∧ (n : Int) ≤ lot := by
    split at hn <;> split at hn <;> omega
  have t0 : Tr tbl J (c43_o0) (fun s h' => s = T.set (T.set (T.set .leaf [] (G lot)) [false] x) [true] y ∧ h' = frameOf h) .normal (fun s h' => s.get [] = G lot ∧ s.get [false] = x ∧ s.get [true] = y ∧ s.get [true, true] = .ptr h.size 0 2 ∧ h' = ⟨h.get, h.size, [.cells 0 2 [.nils, .nils]]⟩) := Tr.region fun s h hp => by
    obtain ⟨rfl, rfl⟩ := hp
    simp (disch := first | omega | exact getEq rfl | exact getO0 | exact Nat.le_of_ble_eq_true rfl) [c43_o0, frameOf, came_some, goI, List.getElem?_cons_zero, List.getElem?_cons_succ, kn, keep, frameOf, size_mk, get_mk_lt, get_mk_ge, Eff.app, Heap.setOwn, putAt, AV.cells, fillA, loadA, takeA, mk, Eff.isAll, Eff.isNone, Eff.commutes, Eff.spares, okPair, apart, eqAgg, fits, LK.fits, allEq, aveq, eqk, mmA, beqT, wrapI, idxI, tdivI, tmodI, decT, decF, ibT, ibF, inT, inF, evScope_c, if_pos, if_neg]
  have t1 : Tr tbl J (c43_o1) (fun s h' => s.get [] = G lot ∧ s.get [false] = x ∧ s.get [true] = y ∧ s.get [true, true] = .ptr h.size 0 2 ∧ h' = ⟨h.get, h.size, [.cells 0 2 [.nils, .nils]]⟩) .normal (fun s h' => s.get [false] = x ∧ s.get [true] = y ∧ s.get [true, true] = .ptr h.size 0 2 ∧ s.get [false, false, false] = G n ∧ h' = ⟨h.get, h.size, [.cells 0 2 [.nils, .nils]]⟩) := Tr.region fun s h hp => by
    obtain ⟨g0, g1, g2, g3, rfl⟩ := hp
    rcases hx.cases with ⟨rfl, rfl⟩ | ⟨rfl, rfl⟩ | ⟨bx, v, rfl, g⟩
    · simp (disch := first | omega | exact getEq rfl | exact getO0 | exact Nat.le_of_ble_eq_true rfl) [c43_o1, came_some, goI, List.getElem?_cons_zero, List.getElem?_cons_succ, kn, keep, frameOf, size_mk, get_mk_lt, get_mk_ge, Eff.app, Heap.setOwn, putAt, AV.cells, fillA, loadA, takeA, mk, Eff.isAll, Eff.isNone, Eff.commutes, Eff.spares, okPair, apart, eqAgg, fits, LK.fits, allEq, aveq, eqk, mmA, beqT, wrapI, idxI, tdivI, tmodI, decT, decF, ibT, ibF, inT, inF, evScope_c, if_pos, if_neg, g0, g1, g2, g3, hn]
    · simp (disch := first | omega | exact getEq rfl | exact getO0 | exact Nat.le_of_ble_eq_true rfl) [c43_o1, came_some, goI, List.getElem?_cons_zero, List.getElem?_cons_succ, kn, keep, frameOf, size_mk, get_mk_lt, get_mk_ge, Eff.app, Heap.setOwn, putAt, AV.cells, fillA, loadA, takeA, mk, Eff.isAll, Eff.isNone, Eff.commutes, Eff.spares, okPair, apart, eqAgg, fits, LK.fits, allEq, aveq, eqk, mmA, beqT, wrapI, idxI, tdivI, tmodI, decT, decF, ibT, ibF, inT, inF, evScope_c, if_pos, if_neg, g0, g1, g2, g3, hn]
    · simp (disch := first | omega | exact getEq rfl | exact getO0 | exact Nat.le_of_ble_eq_true rfl) [c43_o1, came_some, goI, List.getElem?_cons_zero, List.getElem?_cons_succ, kn, keep, frameOf, size_mk, get_mk_lt, get_mk_ge, Eff.app, Heap.setOwn, putAt, AV.cells, fillA, loadA, takeA, mk, Eff.isAll, Eff.isNone, Eff.commutes, Eff.spares, okPair, apart, eqAgg, fits, LK.fits, allEq, aveq, eqk, mmA, beqT, wrapI, idxI, tdivI, tmodI, decT, decF, ibT, ibF, inT, inF, evScope_c, if_pos, if_neg, g0, g1, g2, g3, hn]
  have hx2 := hx.lo [.cells 0 2 [.nils, .nils]]
  have hy2 := hy.lo [.cells 0 2 [.nils, .nils]]
  obtain ⟨H2, s2⟩ : ∃ H, (⟨h.get, h.size, [.cells 0 2 [.nils, .nils]]⟩ : Heap) = H := ⟨_, rfl⟩
  have kf : Kp (fun _ => False) (frameOf h) H2 := by rw [← s2]; exact Kp.plus (frameOf h) [.cells 0 2 [.nils, .nils]]
  have g6 : H2.get h.size = .cells 0 2 [.nils, .nils] := by rw [← s2, get_mk_ge _ _ _ _ (by omega), Nat.sub_self]; rfl
  have hs2 : h.size < H2.size := get_lt g6 (by simp)
  rw [s2] at t1 t0 hx2 hy2
  clear s2
  have hT : WT H2 H2.size x y A R (H2.plus [.cells 0 2 [.nils, .nils]]) [] [] := ⟨hx2, hy2, .nils, .nils, Kp.plus _ _, Nat.le_refl _, plus_at0 _ _ _ _ rfl, LS.nil _, LS.nil _, (fun q hq => nomatch hq), (fun q hq => nomatch hq)⟩
  have t2 : Tr tbl J (c43_o2) (fun s h' => s.get [false] = x ∧ s.get [true] = y ∧ s.get [true, true] = .ptr h.size 0 2 ∧ s.get [false, false, false] = G n ∧ h' = H2) .normal (fun s h' => s.get [false] = x ∧ s.get [true] = y ∧ s.get [true, true] = .ptr h.size 0 2 ∧ s.get [false, false, false] = G n ∧ s.get [true, false, false] = .ptr H2.size 0 2 ∧ WT H2 H2.size x y A R h' [] []) := Tr.region fun s h hp => by
    obtain ⟨g0, g1, g2, g3, rfl⟩ := hp
    simp (disch := first | omega | exact getEq rfl | exact getO0 | exact Nat.le_of_ble_eq_true rfl) [c43_o2, came_some, goI, List.getElem?_cons_zero, List.getElem?_cons_succ, kn, keep, app_growP, app_noneP, plus_N, plus_at0, put_plus0, upd_N, upd_size, putAt, AV.cells, fillA, loadA, takeA, mk, Eff.isAll, Eff.isNone, Eff.commutes, Eff.spares, okPair, apart, eqAgg, fits, LK.fits, allEq, aveq, eqk, mmA, beqT, wrapI, idxI, tdivI, tmodI, decT, decF, ibT, ibF, inT, inF, evScope_c, if_pos, if_neg, g0, g1, g2, g3, hT]
  refine Tr.seq t0 (Tr.seq t1 (Tr.seq t2 (Tr.seq (tame_loop J K (n := n) (by omega)) ?_)))
  generalize hLa : zl (tA A n) n = La
  generalize hLr : zl (tR A R n) n = Lr
  have hcr : crsOk lot La Lr := by rw [← hLa, ← hLr]; exact tame_crs A R n hn1.1 hn1.2
  have hne : La ≠ [] := fun e => by have := hcr.1.1; rw [e] at this; simp at this
  refine Tr.fix (F := fun h' => ∃ xa xr, TwoL H2 H2.size h' xa xr La Lr) (P' := fun H => (fun s h' => s.get [true, true] = .ptr h.size 0 2 ∧ s.get [true, false, false] = .ptr H2.size 0 2 ∧ h' = H)) (fun H3 hT => ?_) (fun s h hp => ⟨hp.2.2.2.2, hp.1, hp.2.1, rfl⟩)
  obtain ⟨xa, xr, t⟩ := hT
  obtain ⟨q0, m0, rfl⟩ := t.a.sl hne
  have g8 := t.g
  have h6 := t.k.at g6 (by simp) id
  have n3 : H3.N = h.size := by rw [t.k.N, kf.N]; rfl
  have p6 := put_gen H3 h.size 2 0 0 [.nils, .nils] [.slice q0 0 m0 m0, xr] (by omega) h6 (by simp)
  have u6 : (H3.upd h.size (.cells 0 2 [.slice q0 0 m0 m0, xr])).get h.size = .cells 0 2 [.slice q0 0 m0 m0, xr] := upd_same _ _ _ (by omega) (by have := t.k.size; omega)
  have t3 : Tr tbl J ((.seq c43_o15 .ret)) (fun s h' => s.get [true, true] = .ptr h.size 0 2 ∧ s.get [true, false, false] = .ptr H2.size 0 2 ∧ h' = H3) .ret (fun s h' => s.get [true, true] = .ptr h.size 0 2 ∧ h' = H3.upd h.size (.cells 0 2 [.slice q0 0 m0 m0, xr])) := Tr.region fun s h hp => by
    obtain ⟨g0, g1, rfl⟩ := hp
    simp (disch := first | omega | exact getEq rfl | exact getO0 | exact Nat.le_of_ble_eq_true rfl) [c43_o15, came_some, goI, List.getElem?_cons_zero, List.getElem?_cons_succ, kn, keep, app_growP, app_noneP, plus_N, plus_at0, put_plus0, upd_N, upd_size, putAt, AV.cells, fillA, loadA, takeA, mk, Eff.isAll, Eff.isNone, Eff.commutes, Eff.spares, okPair, apart, eqAgg, fits, LK.fits, allEq, aveq, eqk, mmA, beqT, wrapI, idxI, tdivI, tmodI, decT, decF, ibT, ibF, inT, inF, evScope_c, if_pos, if_neg, g0, g1, g8, p6]
  refine Tr.post (fun s h' q => ?_) t3
  obtain ⟨q1, rfl⟩ := q
  have ku : Kp (· = h.size) H3 (H3.upd h.size (.cells 0 2 [.slice q0 0 m0 m0, xr])) := Kp.upd _ _ _ (by omega) rfl
  have kall : Kp (fun _ => True) (frameOf h) (H3.upd h.size (.cells 0 2 [.slice q0 0 m0 m0, xr])) := ((kf.trans t.k).mono (fun _ _ _ => trivial)).trans (ku.mono (fun _ _ _ => trivial))
  have ho := kall.own
  refine ⟨[.agg [.slice q0 0 m0 m0, xr]], ?_, rfl, .slice q0 0 m0 m0, xr, La, Lr, rfl, ?_, ?_, hcr, fun e => ?_⟩
  · simp [c43, evRess, evRes, q1, loadA, u6, takeA]
  · refine listOf_fr ?_
    rw [← ho]
    exact (t.a.kp ku (fun q hq e => by have := (t.da q hq).1; omega)).list
  · refine listOf_fr ?_
    rw [← ho]
    exact (t.r.kp ku (fun q hq e => by have := (t.dr q hq).1; omega)).list
  · have := get_lt u6 (by simp)
    rw [ho, e] at this
    simp [Heap.size] at this

end Go.Proofs.Ytlkgpcfhpeilhaa.Ev
