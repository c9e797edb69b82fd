/-
  SampleCurtailed answers true at any ints, as the evaluator runs it. No condition.
-/
import Derived.Test.YtlkgpcfhpeilhaaSTab
import Derived.Test.YtlkgpcfhpeilhaaSMass
import Derived.Test.YtlkgpcfhpeilhaaSApp
import Derived.Test.YtlkgpcfhpeilhaaSBig
set_option linter.unusedVariables false
set_option linter.unusedSimpArgs false
namespace Go.Proofs.Ytlkgpcfhpeilhaa.Ev
open Go Go.AEv

attribute [local simp] evFunc initS evOps_c evTrim_c evSkip_c evExit_c evRet_c evSeq_c evCond_c evBlock_c evDraw_c runOps_n runOps_c exec_n exec_g pure1_c act AOpd.ev T.get T.set T.put evBin evUn forceT_eq forceV_eq forceL_eq evRess evRes one keep runFP_n runFP_c app_none AV.flats AV.flat

/-! ### The numbers -/
/-- The course of a plan without decisions before. -/
def lA (n : Nat) (c : Int) (i : Nat) : Int := if i + 1 = n then c else -1
def lR (n : Nat) (c : Int) (i : Nat) : Int := if i + 1 = n then c + 1 else n + 1
section
variable {lot bad c : Int} {n : Nat}
theorem curt_crs (h1 : 1 ≤ n) (h2 : (n : Int) ≤ lot) (hc : 0 ≤ c ∧ c < n) : crsOk lot (zl (cA n c) n) (List.replicate n (c + 1)) := by
  refine ⟨⟨by rw [zl_len]; omega, by rw [zl_len]; omega⟩, by rw [zl_len, List.length_replicate], fun i hi => ?_, ?_⟩
  · rw [zl_len] at hi ⊢
    unfold stepOk
    rw [zl_at _ hi, rep_at _ hi]; unfold cA
    split <;> omega
  · rw [zl_len, zl_at _ (by omega), rep_at _ (by omega)]; unfold cA
    rw [if_pos (by omega)]; omega
theorem late_crs (h1 : 1 ≤ n) (h2 : (n : Int) ≤ lot) (hc : 0 ≤ c ∧ c < n) : crsOk lot (zl (lA n c) n) (zl (lR n c) n) := by
  refine ⟨⟨by rw [zl_len]; omega, by rw [zl_len]; omega⟩, by rw [zl_len, zl_len], fun i hi => ?_, ?_⟩
  · rw [zl_len] at hi ⊢
    unfold stepOk
    rw [zl_at _ hi, zl_at _ hi]; unfold lA lR
    split <;> omega
  · rw [zl_len, zl_at _ (by omega), zl_at _ (by omega)]; unfold lA lR
    rw [if_pos (by omega), if_pos (by omega)]
theorem curt_y (h1 : 1 ≤ n) (h2 : (n : Int) ≤ lot) (hc : 0 ≤ c ∧ c < n) : yT lot bad ((zl (cA n c) n).getD · 0) ((List.replicate n (c + 1)).getD · 0) n = acc lot bad n (c.toNat + 1) := by
  refine yT_single n (c.toNat + 1) h1 h2 (fun i k hi hk h => ?_) (fun i k hi hk h => ?_) ?_
  · rw [zl_at _ hi] at h; unfold cA at h; split at h <;> omega
  · rw [rep_at _ hi] at h; omega
  · rw [zl_at _ (by omega), rep_at _ (by omega)]; unfold cA
    rw [if_pos (by omega)]; omega
theorem late_y (h1 : 1 ≤ n) (h2 : (n : Int) ≤ lot) (hc : 0 ≤ c ∧ c < n) : yT lot bad ((zl (lA n c) n).getD · 0) ((zl (lR n c) n).getD · 0) n = acc lot bad n (c.toNat + 1) := by
  refine yT_single n (c.toNat + 1) h1 h2 (fun i k hi hk h => ?_) (fun i k hi hk h => ?_) ?_
  · rw [zl_at _ hi] at h; unfold lA at h; split at h <;> omega
  · rw [zl_at _ hi] at h; unfold lR at h; split at h <;> omega
  · rw [zl_at _ (by omega), zl_at _ (by omega)]; unfold lA lR
    rw [if_pos (by omega), if_pos (by omega)]; omega
theorem curt_p (h1 : 1 ≤ n) (h2 : (n : Int) ≤ lot) (hc : 0 ≤ c ∧ c < n) : pT lot bad ((zl (cA n c) n).getD · 0) ((List.replicate n (c + 1)).getD · 0) n ≤ n * ofZ lot bad := by
  have h := mass_all (lot := lot) (bad := bad) (A := ((zl (cA n c) n).getD · 0)) (R := ((List.replicate n (c + 1)).getD · 0)) n h1 h2 (by
    show (List.replicate n (c + 1)).getD (n - 1) 0 ≤ (zl (cA n c) n).getD (n - 1) 0 + 1
    rw [zl_at _ (by omega), rep_at _ (by omega)]; unfold cA
    rw [if_pos (by omega)]; omega)
  rw [← h]; exact pT_tT n
theorem late_0 {A R : Nat → Int} (i : Nat) (hA : A i = -1) (hR : R i = n + 1) (hi : i + 1 < n) : yC lot bad A R i = 0 ∧ nC lot bad A R i = 0 := by
  refine ⟨?_, ?_⟩
  · show yS lot bad A R i (i + 2) = 0
    rw [yS_sm]; exact sm_zero _ fun k hk => by rw [hA, if_neg (by omega)]
  · show nS lot bad A R i (i + 2) = 0
    rw [nS_sm]; exact sm_zero _ fun k hk => by rw [hA, hR, if_neg (by omega), if_neg (by omega)]
theorem late_p (h1 : 1 ≤ n) (h2 : (n : Int) ≤ lot) (hc : 0 ≤ c ∧ c < n) : pT lot bad ((zl (lA n c) n).getD · 0) ((zl (lR n c) n).getD · 0) n = n * ofZ lot bad := by
  have hm := mass_all (lot := lot) (bad := bad) (A := ((zl (lA n c) n).getD · 0)) (R := ((zl (lR n c) n).getD · 0)) n h1 h2 (by
    show (zl (lR n c) n).getD (n - 1) 0 ≤ (zl (lA n c) n).getD (n - 1) 0 + 1
    rw [zl_at _ (by omega), zl_at _ (by omega)]; unfold lA lR
    rw [if_pos (by omega), if_pos (by omega)]; omega)
  have h0 : ∀ i, i + 1 < n → yC lot bad ((zl (lA n c) n).getD · 0) ((zl (lR n c) n).getD · 0) i = 0 ∧ nC lot bad ((zl (lA n c) n).getD · 0) ((zl (lR n c) n).getD · 0) i = 0 := fun i hi =>
    late_0 i (by show (zl (lA n c) n).getD i 0 = -1; rw [zl_at _ (by omega)]; unfold lA; rw [if_neg (by omega)]) (by show (zl (lR n c) n).getD i 0 = n + 1; rw [zl_at _ (by omega)]; unfold lR; rw [if_neg (by omega)]) hi
  generalize ((zl (lA n c) n).getD · 0) = A at *
  generalize ((zl (lR n c) n).getD · 0) = R at *
  obtain ⟨m, rfl⟩ : ∃ m, n = m + 1 := ⟨n - 1, by omega⟩
  have hz : ∀ i, i ≤ m → pT lot bad A R i = 0 ∧ tT lot bad A R i = 0 := by
    intro i
    induction i with
    | zero => intro _; exact ⟨rfl, rfl⟩
    | succ i ih =>
      intro hi
      obtain ⟨q1, q2⟩ := ih (by omega)
      obtain ⟨q3, q4⟩ := h0 i (by omega)
      simp only [pT, tT, q1, q2, q3, q4]; simp
  obtain ⟨q1, q2⟩ := hz m (Nat.le_refl _)
  have hm' : tT lot bad A R m + (yC lot bad A R m + nC lot bad A R m) = ofZ lot bad := hm
  show pT lot bad A R m + (m + 1) * (yC lot bad A R m + nC lot bad A R m) = _
  rw [q1, ← hm', q2]; simp
end


/-! ### The law -/
structure H7 (x0 x1 x2 y lot c : Int) (n B : Nat) (u v p q : Int) : Prop where
  e1 : lotZ x0 = lot
  e2 : nZ x0 x1 = n
  e3 : cZ x0 x1 x2 = c
  e4 : mdZ y (lot + 1) = B
  r1 : 1 ≤ lot ∧ lot ≤ 36
  r2 : 1 ≤ n ∧ (n : Int) ≤ lot
  r3 : 0 ≤ c ∧ c < n
  r4 : (B : Int) ≤ lot
  e5 : fr (acc lot B n (c.toNat + 1)) (ofZ lot B) = .agg [G u, G v]
  e6 : fr (pT lot B ((zl (cA n c) n).getD · 0) ((List.replicate n (c + 1)).getD · 0) n) (ofZ lot B) = .agg [G p, G q]
  e7 : fr (n * ofZ lot B : Nat) (ofZ lot B) = .agg [G n, G 1]
  w : vOk p q
  f : decide ((n : Int) * q < p * 1) = false

abbrev X7 (S n : Nat) : AObj := .cells 0 2 [.slice (S + 5) 0 n n, .slice (S + 2) 0 n n]
def TW (H2 : Heap) (b : Nat) (h : Heap) (La Lr : List Int) : Prop := ∃ xa xr, TwoL H2 b h xa xr La Lr
section
variable {x0 x1 x2 y lot c : Int} {n B : Nat} {u v p q : Int}
theorem w7_1 (J : CallF) (K : KnC J) (H : H7 x0 x1 x2 y lot c n B u v p q) : Tr tbl J (.seq c7_o0 (.seq c7_o1 c7_o2)) (fun s h => s = T.set (T.set .leaf [] (.agg [G x0, G x1, G x2])) [false] (G y) ∧ h = ⟨e0.get, 0, []⟩) .normal (fun s h => s.get [false] = G B ∧ s.get [false, true] = G lot ∧ s.get [true, true] = G n ∧ s.get [false, false, false] = G c ∧ h = ⟨e0.get, 0, [.cells 0 3 [G x0, G x1, G x2]]⟩) := by
  obtain ⟨e1, e2, e3, e4, r1, r2, r3, r4, e5, e6, e7, w, f⟩ := H
  have t : Tr tbl J ((.seq c7_o0 (.seq c7_o1 c7_o2))) (fun s h => s = T.set (T.set .leaf [] (.agg [G x0, G x1, G x2])) [false] (G y) ∧ h = ⟨e0.get, 0, []⟩) .normal (fun s h => s.get [false] = G B ∧ s.get [false, true] = G lot ∧ s.get [true, true] = G n ∧ s.get [false, false, false] = G c ∧ h = ⟨e0.get, 0, [.cells 0 3 [G x0, G x1, G x2]]⟩) := Tr.region fun s h hp => by
    obtain ⟨rfl, rfl⟩ := hp
    simp (disch := first | omega | exact getEq rfl | exact getO0 | exact Nat.le_of_ble_eq_true rfl) [c7_o0, c7_o1, c7_o2, came_some, goI, List.getElem?_cons_zero, List.getElem?_cons_succ, kn, keep, frameOf, Heap.size, Heap.get, Eff.app, Heap.setOwn, putAt, AV.cells, fillA, loadA, takeA, mk, Eff.isAll, Eff.isNone, Eff.commutes, Eff.spares, okPair, apart, eqAgg, fits, LK.fits, allEq, aveq, eqk, mmA, beqT, wrapI, idxI, tdivI, tmodI, decT, decF, ibT, ibF, inT, inF, evScope_c, if_pos, if_neg, K.k22, K.k24, e1, e2, e3, e4]
  exact t

theorem w7_3 (J : CallF) (K : KnC J) (hl : 1 ≤ lot ∧ lot ≤ 36) (hn : 1 ≤ n ∧ (n : Int) ≤ lot) (hc : 0 ≤ c ∧ c < n) (H : Heap) : Tr tbl J c7_o3 (fun s h => s.get [false] = G B ∧ s.get [false, true] = G lot ∧ s.get [true, true] = G n ∧ s.get [false, false, false] = G c ∧ h = H) .normal (fun s h => s.get [false] = G B ∧ s.get [false, true] = G lot ∧ s.get [true, true] = G n ∧ s.get [false, false, false] = G c ∧ s.get [true, false, false] = .ptr (H.plus (own32 H.size n c)).size 0 2 ∧ s.get [false, true, false] = G 0 ∧ h = (H.plus (own32 H.size n c)).plus [X7 H.size n]) := by
  have k := fun h => K.k32 h lot n c (by omega) hn.2 hl.2 hc.1 hc.2
  simp only [Int.toNat_natCast] at k
  have hne : ∀ S, own32 S n c ≠ [] := fun S => by simp [own32]
  have t : Tr tbl J (c7_o3) (fun s h => s.get [false] = G B ∧ s.get [false, true] = G lot ∧ s.get [true, true] = G n ∧ s.get [false, false, false] = G c ∧ h = H) .normal (fun s h => s.get [false] = G B ∧ s.get [false, true] = G lot ∧ s.get [true, true] = G n ∧ s.get [false, false, false] = G c ∧ s.get [true, false, false] = .ptr (H.plus (own32 H.size n c)).size 0 2 ∧ s.get [false, true, false] = G 0 ∧ h = (H.plus (own32 H.size n c)).plus [X7 H.size n]) := Tr.region fun s h hp => by
    obtain ⟨g0, g1, g2, g3, rfl⟩ := hp
    simp (disch := first | omega | exact getEq rfl | exact getO0 | exact Nat.le_of_ble_eq_true rfl) [c7_o3, came_some, goI, List.getElem?_cons_zero, List.getElem?_cons_succ, kn, keep, app_growP, app_noneP, plus_N, plus_at0, put_plus0, upd_N, upd_size, putAt, AV.cells, fillA, loadA, takeA, mk, Eff.isAll, Eff.isNone, Eff.commutes, Eff.spares, okPair, apart, eqAgg, fits, LK.fits, allEq, aveq, eqk, mmA, beqT, wrapI, idxI, tdivI, tmodI, decT, decF, ibT, ibF, inT, inF, evScope_c, if_pos, if_neg, g0, g1, g2, g3, k, hne]
  exact t

theorem w7_4 (J : CallF) (K : KnC J) {b8 S : Nat} {La Lr : List Int} (hl : 1 ≤ lot ∧ lot ≤ 36) (hn : 1 ≤ n ∧ (n : Int) ≤ lot) (H : Heap) (g8 : H.get b8 = X7 S n) (l1 : listOf H (.slice (S + 5) 0 n n) = some La) (l2 : listOf H (.slice (S + 2) 0 n n) = some Lr) (hc : crsOk lot La Lr) :
    Tr tbl J (.seq c7_o4 (.cond (.s [false, true, true, false, true]) (.seq c7_o5 .ret) .skip)) (fun s h => s.get [false] = G B ∧ s.get [false, true] = G lot ∧ s.get [true, true] = G n ∧ s.get [false, false, false] = G c ∧ s.get [true, false, false] = .ptr b8 0 2 ∧ s.get [false, true, false] = G 0 ∧ h = H) .normal (fun s h => s.get [false] = G B ∧ s.get [false, true] = G lot ∧ s.get [true, true] = G n ∧ s.get [false, false, false] = G c ∧ s.get [true, false, false] = .ptr b8 0 2 ∧ h = H) := by
  have k := K.k33 H lot _ _ La Lr l1 l2 ⟨hl, by omega, by omega⟩ hc
  have t : Tr tbl J ((.seq c7_o4 (.cond (.s [false, true, true, false, true]) (.seq c7_o5 .ret) .skip))) (fun s h => s.get [false] = G B ∧ s.get [false, true] = G lot ∧ s.get [true, true] = G n ∧ s.get [false, false, false] = G c ∧ s.get [true, false, false] = .ptr b8 0 2 ∧ s.get [false, true, false] = G 0 ∧ h = H) .normal (fun s h => s.get [false] = G B ∧ s.get [false, true] = G lot ∧ s.get [true, true] = G n ∧ s.get [false, false, false] = G c ∧ s.get [true, false, false] = .ptr b8 0 2 ∧ h = H) := Tr.region fun s h hp => by
    obtain ⟨g0, g1, g2, g3, g4, g5, rfl⟩ := hp
    simp (disch := first | omega | exact getEq rfl | exact getO0 | exact Nat.le_of_ble_eq_true rfl) [c7_o4, came_some, goI, List.getElem?_cons_zero, List.getElem?_cons_succ, kn, keep, app_growP, app_noneP, plus_N, plus_at0, put_plus0, upd_N, upd_size, putAt, AV.cells, fillA, loadA, takeA, mk, Eff.isAll, Eff.isNone, Eff.commutes, Eff.spares, okPair, apart, eqAgg, fits, LK.fits, allEq, aveq, eqk, mmA, beqT, wrapI, idxI, tdivI, tmodI, decT, decF, ibT, ibF, inT, inF, evScope_c, if_pos, if_neg, g0, g1, g2, g3, g4, g5, g8, k]
  exact t

theorem w7_6 (J : CallF) (x8 : AV) (H : Heap) : Tr tbl J c7_o6 (fun s h => s.get [false] = G B ∧ s.get [false, true] = G lot ∧ s.get [true, true] = G n ∧ s.get [false, false, false] = G c ∧ s.get [true, false, false] = x8 ∧ h = H) .normal (fun s h => s.get [false] = G B ∧ s.get [false, true] = G lot ∧ s.get [true, true] = G n ∧ s.get [false, false, false] = G c ∧ s.get [true, false, false] = x8 ∧ s.get [true, true, false] = .ptr H.size 0 2 ∧ TW H H.size h [] []) := by
  have hT : TW H H.size (H.plus [.cells 0 2 [.nils, .nils]]) [] [] := ⟨.nils, .nils, Kp.plus _ _, Nat.le_refl _, plus_at0 _ _ _ _ rfl, LS.nil _, LS.nil _, (fun q hq => nomatch hq), (fun q hq => nomatch hq)⟩
  have t : Tr tbl J (c7_o6) (fun s h => s.get [false] = G B ∧ s.get [false, true] = G lot ∧ s.get [true, true] = G n ∧ s.get [false, false, false] = G c ∧ s.get [true, false, false] = x8 ∧ h = H) .normal (fun s h => s.get [false] = G B ∧ s.get [false, true] = G lot ∧ s.get [true, true] = G n ∧ s.get [false, false, false] = G c ∧ s.get [true, false, false] = x8 ∧ s.get [true, true, false] = .ptr H.size 0 2 ∧ TW H H.size h [] []) := Tr.region fun s h hp => by
    obtain ⟨g0, g1, g2, g3, g4, rfl⟩ := hp
    simp (disch := first | omega | exact getEq rfl | exact getO0 | exact Nat.le_of_ble_eq_true rfl) [c7_o6, came_some, goI, List.getElem?_cons_zero, List.getElem?_cons_succ, kn, keep, app_growP, app_noneP, plus_N, plus_at0, put_plus0, upd_N, upd_size, putAt, AV.cells, fillA, loadA, takeA, mk, Eff.isAll, Eff.isNone, Eff.commutes, Eff.spares, okPair, apart, eqAgg, fits, LK.fits, allEq, aveq, eqk, mmA, beqT, wrapI, idxI, tdivI, tmodI, decT, decF, ibT, ibF, inT, inF, evScope_c, if_pos, if_neg, g0, g1, g2, g3, g4, hT]
  exact t

abbrev L7 : List Path := [[false], [false, true], [true, true], [false, false, false], [true, false, false], [true, true, false], [false, false, true]]
theorem w7_step (J : CallF) {b : Nat} {x8 : AV} {H2 : Heap} (hn : n ≤ 36) (hc : 0 ≤ c ∧ c < n) (j : Nat) (hj : j < n) :
    Tr tbl J (.trim L7 c7_b0) (fun s h => s.get [false] = G B ∧ s.get [false, true] = G lot ∧ s.get [true, true] = G n ∧ s.get [false, false, false] = G c ∧ s.get [true, false, false] = x8 ∧ s.get [true, true, false] = .ptr b 0 2 ∧ s.get [false, false, true] = G ((j : Nat) + 1) ∧ TW H2 b h (zl (lA n c) j) (zl (lR n c) j)) .normal
      (fun s h => s.get [false] = G B ∧ s.get [false, true] = G lot ∧ s.get [true, true] = G n ∧ s.get [false, false, false] = G c ∧ s.get [true, false, false] = x8 ∧ s.get [true, true, false] = .ptr b 0 2 ∧ s.get [false, false, true] = G ((j + 1 : Nat) + 1) ∧ TW H2 b h (zl (lA n c) (j + 1)) (zl (lR n c) (j + 1))) := by
  have ta : Tr tbl J ((.trim L7 (.seq c7_o8 (.cond (.s [true, false, false, true, true]) .skip (.exit 0))))) (fun s h => s.get [false] = G B ∧ s.get [false, true] = G lot ∧ s.get [true, true] = G n ∧ s.get [false, false, false] = G c ∧ s.get [true, false, false] = x8 ∧ s.get [true, true, false] = .ptr b 0 2 ∧ s.get [false, false, true] = G ((j : Nat) + 1) ∧ TW H2 b h (zl (lA n c) j) (zl (lR n c) j)) .normal (fun s h => s.get [false] = G B ∧ s.get [false, true] = G lot ∧ s.get [true, true] = G n ∧ s.get [false, false, false] = G c ∧ s.get [true, false, false] = x8 ∧ s.get [true, true, false] = .ptr b 0 2 ∧ s.get [false, false, true] = G ((j : Nat) + 1) ∧ TW H2 b h (zl (lA n c) j) (zl (lR n c) j)) := Tr.region fun s h hp => by
    obtain ⟨g0, g1, g2, g3, g4, g5, g6, hh0⟩ := hp
    simp (disch := first | omega | exact getEq rfl | exact getO0 | exact Nat.le_of_ble_eq_true rfl) [c7_o8, came_some, goI, List.getElem?_cons_zero, List.getElem?_cons_succ, kn, keep, app_growP, app_noneP, plus_N, plus_at0, put_plus0, upd_N, upd_size, putAt, AV.cells, fillA, loadA, takeA, mk, Eff.isAll, Eff.isNone, Eff.commutes, Eff.spares, okPair, apart, eqAgg, fits, LK.fits, allEq, aveq, eqk, mmA, beqT, wrapI, idxI, tdivI, tmodI, decT, decF, ibT, ibF, inT, inF, evScope_c, if_pos, if_neg, g0, g1, g2, g3, g4, g5, g6, hh0]
  have tb : Tr tbl J (.seq c7_o9 (.seq c7_o10 (.cond (.s [false, false, false, false, false, false]) (.seq c7_o11 c7_o12) .skip))) (fun s h => s.get [false] = G B ∧ s.get [false, true] = G lot ∧ s.get [true, true] = G n ∧ s.get [false, false, false] = G c ∧ s.get [true, false, false] = x8 ∧ s.get [true, true, false] = .ptr b 0 2 ∧ s.get [false, false, true] = G ((j : Nat) + 1) ∧ TW H2 b h (zl (lA n c) j) (zl (lR n c) j)) .normal (fun s h => s.get [false] = G B ∧ s.get [false, true] = G lot ∧ s.get [true, true] = G n ∧ s.get [false, false, false] = G c ∧ s.get [true, false, false] = x8 ∧ s.get [true, true, false] = .ptr b 0 2 ∧ s.get [false, false, true] = G ((j : Nat) + 1) ∧ s.get [true, false, true] = G (lA n c j) ∧ s.get [false, true, true] = G (lR n c j) ∧ TW H2 b h (zl (lA n c) j) (zl (lR n c) j)) := by
    by_cases hx : j + 1 = n
    · have y1 : lA n c j = c := if_pos hx
      have y2 : lR n c j = c + 1 := if_pos hx
      rw [y1, y2]
      have t : Tr tbl J ((.seq c7_o9 (.seq c7_o10 (.cond (.s [false, false, false, false, false, false]) (.seq c7_o11 c7_o12) .skip)))) (fun s h => s.get [false] = G B ∧ s.get [false, true] = G lot ∧ s.get [true, true] = G n ∧ s.get [false, false, false] = G c ∧ s.get [true, false, false] = x8 ∧ s.get [true, true, false] = .ptr b 0 2 ∧ s.get [false, false, true] = G ((j : Nat) + 1) ∧ TW H2 b h (zl (lA n c) j) (zl (lR n c) j)) .normal (fun s h => s.get [false] = G B ∧ s.get [false, true] = G lot ∧ s.get [true, true] = G n ∧ s.get [false, false, false] = G c ∧ s.get [true, false, false] = x8 ∧ s.get [true, true, false] = .ptr b 0 2 ∧ s.get [false, false, true] = G ((j : Nat) + 1) ∧ s.get [true, false, true] = G c ∧ s.get [false, true, true] = G (c + 1) ∧ TW H2 b h (zl (lA n c) j) (zl (lR n c) j)) := Tr.region fun s h hp => by
        obtain ⟨g0, g1, g2, g3, g4, g5, g6, hh0⟩ := hp
        simp (disch := first | omega | exact getEq rfl | exact getO0 | exact Nat.le_of_ble_eq_true rfl) [c7_o9, c7_o10, c7_o11, c7_o12, came_some, goI, List.getElem?_cons_zero, List.getElem?_cons_succ, kn, keep, app_growP, app_noneP, plus_N, plus_at0, put_plus0, upd_N, upd_size, putAt, AV.cells, fillA, loadA, takeA, mk, Eff.isAll, Eff.isNone, Eff.commutes, Eff.spares, okPair, apart, eqAgg, fits, LK.fits, allEq, aveq, eqk, mmA, beqT, wrapI, idxI, tdivI, tmodI, decT, decF, ibT, ibF, inT, inF, evScope_c, if_pos, if_neg, g0, g1, g2, g3, g4, g5, g6, hh0]
      exact t
    · have y1 : lA n c j = -1 := if_neg hx
      have y2 : lR n c j = n + 1 := if_neg hx
      rw [y1, y2]
      have t : Tr tbl J ((.seq c7_o9 (.seq c7_o10 (.cond (.s [false, false, false, false, false, false]) (.seq c7_o11 c7_o12) .skip)))) (fun s h => s.get [false] = G B ∧ s.get [false, true] = G lot ∧ s.get [true, true] = G n ∧ s.get [false, false, false] = G c ∧ s.get [true, false, false] = x8 ∧ s.get [true, true, false] = .ptr b 0 2 ∧ s.get [false, false, true] = G ((j : Nat) + 1) ∧ TW H2 b h (zl (lA n c) j) (zl (lR n c) j)) .normal (fun s h => s.get [false] = G B ∧ s.get [false, true] = G lot ∧ s.get [true, true] = G n ∧ s.get [false, false, false] = G c ∧ s.get [true, false, false] = x8 ∧ s.get [true, true, false] = .ptr b 0 2 ∧ s.get [false, false, true] = G ((j : Nat) + 1) ∧ s.get [true, false, true] = G (-1) ∧ s.get [false, true, true] = G (n + 1) ∧ TW H2 b h (zl (lA n c) j) (zl (lR n c) j)) := Tr.region fun s h hp => by
        obtain ⟨g0, g1, g2, g3, g4, g5, g6, hh0⟩ := hp
        simp (disch := first | omega | exact getEq rfl | exact getO0 | exact Nat.le_of_ble_eq_true rfl) [c7_o9, c7_o10, came_some, goI, List.getElem?_cons_zero, List.getElem?_cons_succ, kn, keep, app_growP, app_noneP, plus_N, plus_at0, put_plus0, upd_N, upd_size, putAt, AV.cells, fillA, loadA, takeA, mk, Eff.isAll, Eff.isNone, Eff.commutes, Eff.spares, okPair, apart, eqAgg, fits, LK.fits, allEq, aveq, eqk, mmA, beqT, wrapI, idxI, tdivI, tmodI, decT, decF, ibT, ibF, inT, inF, evScope_c, if_pos, if_neg, g0, g1, g2, g3, g4, g5, g6, hh0]
      exact t
  generalize z1 : lA n c j = za at *
  generalize z2 : lR n c j = zr at *
  have tc : Tr tbl J (c7_o13) (fun s h => s.get [false] = G B ∧ s.get [false, true] = G lot ∧ s.get [true, true] = G n ∧ s.get [false, false, false] = G c ∧ s.get [true, false, false] = x8 ∧ s.get [true, true, false] = .ptr b 0 2 ∧ s.get [false, false, true] = G ((j : Nat) + 1) ∧ s.get [true, false, true] = G za ∧ s.get [false, true, true] = G zr ∧ TW H2 b h (zl (lA n c) j) (zl (lR n c) j)) .normal (fun s h => s.get [false] = G B ∧ s.get [false, true] = G lot ∧ s.get [true, true] = G n ∧ s.get [false, false, false] = G c ∧ s.get [true, false, false] = x8 ∧ s.get [true, true, false] = .ptr b 0 2 ∧ s.get [false, false, true] = G ((j : Nat) + 1) ∧ s.get [false, true, true] = G zr ∧ TW H2 b h (zl (lA n c) j ++ [za]) (zl (lR n c) j)) := Tr.region fun s h hp => by
    obtain ⟨g0, g1, g2, g3, g4, g5, g6, g7, g8, hh0⟩ := hp
    obtain ⟨xa, xr, t⟩ := id hh0
    obtain ⟨x1, e, h2, q1, q2, q3, q4, q5⟩ := t.appA za (by rw [zl_len]; omega)
    have g := t.g
    have q6 : TW H2 b (h2.upd b (.cells 0 2 [x1, xr])) (zl (lA n c) j ++ [za]) (zl (lR n c) j) := ⟨_, _, q5⟩
    have q7 := plus_keep [.cells 1 1 [G za]] g (by simp)
    obtain ⟨q0, m0, rfl⟩ := q5.a.sl (by simp)
    simp (disch := first | omega | exact getEq rfl | exact getO0 | exact Nat.le_of_ble_eq_true rfl) [c7_o13, came_some, goI, List.getElem?_cons_zero, List.getElem?_cons_succ, kn, keep, app_growP, app_noneP, plus_N, plus_at0, put_plus0, upd_N, upd_size, putAt, AV.cells, fillA, loadA, takeA, mk, Eff.isAll, Eff.isNone, Eff.commutes, Eff.spares, okPair, apart, eqAgg, fits, LK.fits, allEq, aveq, eqk, mmA, beqT, wrapI, idxI, tdivI, tmodI, decT, decF, ibT, ibF, inT, inF, evScope_c, if_pos, if_neg, g0, g1, g2, g3, g4, g5, g6, g7, g8, hh0, elems, rdOf, g, q1, q2, q3, q4, q6, q7]
  have td : Tr tbl J (c7_o14) (fun s h => s.get [false] = G B ∧ s.get [false, true] = G lot ∧ s.get [true, true] = G n ∧ s.get [false, false, false] = G c ∧ s.get [true, false, false] = x8 ∧ s.get [true, true, false] = .ptr b 0 2 ∧ s.get [false, false, true] = G ((j : Nat) + 1) ∧ s.get [false, true, true] = G zr ∧ TW H2 b h (zl (lA n c) j ++ [za]) (zl (lR n c) j)) .normal (fun s h => s.get [false] = G B ∧ s.get [false, true] = G lot ∧ s.get [true, true] = G n ∧ s.get [false, false, false] = G c ∧ s.get [true, false, false] = x8 ∧ s.get [true, true, false] = .ptr b 0 2 ∧ s.get [false, false, true] = G ((j : Nat) + 1) ∧ TW H2 b h (zl (lA n c) j ++ [za]) (zl (lR n c) j ++ [zr])) := Tr.region fun s h hp => by
    obtain ⟨g0, g1, g2, g3, g4, g5, g6, g7, hh0⟩ := hp
    obtain ⟨xa, xr, t⟩ := id hh0
    obtain ⟨x1, e, h2, q1, q2, q3, q4, q5⟩ := t.appR zr (by rw [zl_len]; omega)
    have g := t.g
    have q6 : TW H2 b (h2.upd b (.cells 0 2 [xa, x1])) (zl (lA n c) j ++ [za]) (zl (lR n c) j ++ [zr]) := ⟨_, _, q5⟩
    have q7 := plus_keep [.cells 1 1 [G zr]] g (by simp)
    obtain ⟨q0, m0, rfl⟩ := q5.r.sl (by simp)
    simp (disch := first | omega | exact getEq rfl | exact getO0 | exact Nat.le_of_ble_eq_true rfl) [c7_o14, came_some, goI, List.getElem?_cons_zero, List.getElem?_cons_succ, kn, keep, app_growP, app_noneP, plus_N, plus_at0, put_plus0, upd_N, upd_size, putAt, AV.cells, fillA, loadA, takeA, mk, Eff.isAll, Eff.isNone, Eff.commutes, Eff.spares, okPair, apart, eqAgg, fits, LK.fits, allEq, aveq, eqk, mmA, beqT, wrapI, idxI, tdivI, tmodI, decT, decF, ibT, ibF, inT, inF, evScope_c, if_pos, if_neg, g0, g1, g2, g3, g4, g5, g6, g7, hh0, elems, rdOf, g, q1, q2, q3, q4, q6, q7]
  have ea : zl (lA n c) (j + 1) = zl (lA n c) j ++ [za] := by rw [← z1]; rfl
  have er : zl (lR n c) (j + 1) = zl (lR n c) j ++ [zr] := by rw [← z2]; rfl
  rw [ea, er]
  have te : Tr tbl J (c7_o15) (fun s h => s.get [false] = G B ∧ s.get [false, true] = G lot ∧ s.get [true, true] = G n ∧ s.get [false, false, false] = G c ∧ s.get [true, false, false] = x8 ∧ s.get [true, true, false] = .ptr b 0 2 ∧ s.get [false, false, true] = G ((j : Nat) + 1) ∧ TW H2 b h (zl (lA n c) j ++ [za]) (zl (lR n c) j ++ [zr])) .normal (fun s h => s.get [false] = G B ∧ s.get [false, true] = G lot ∧ s.get [true, true] = G n ∧ s.get [false, false, false] = G c ∧ s.get [true, false, false] = x8 ∧ s.get [true, true, false] = .ptr b 0 2 ∧ s.get [false, false, true] = G ((j + 1 : Nat) + 1) ∧ TW H2 b h (zl (lA n c) j ++ [za]) (zl (lR n c) j ++ [zr])) := Tr.region fun s h hp => by
    obtain ⟨g0, g1, g2, g3, g4, g5, g6, hh0⟩ := hp
    simp (disch := first | omega | exact getEq rfl | exact getO0 | exact Nat.le_of_ble_eq_true rfl) [c7_o15, came_some, goI, List.getElem?_cons_zero, List.getElem?_cons_succ, kn, keep, app_growP, app_noneP, plus_N, plus_at0, put_plus0, upd_N, upd_size, putAt, AV.cells, fillA, loadA, takeA, mk, Eff.isAll, Eff.isNone, Eff.commutes, Eff.spares, okPair, apart, eqAgg, fits, LK.fits, allEq, aveq, eqk, mmA, beqT, wrapI, idxI, tdivI, tmodI, decT, decF, ibT, ibF, inT, inF, evScope_c, if_pos, if_neg, g0, g1, g2, g3, g4, g5, g6, hh0]
  exact Tr.trim_seq ta (Tr.seq (Tr.block_out (Tr.app2 tb (Tr.seq tc td)) (by simp)) te)

theorem w7_loop (J : CallF) {b : Nat} {x8 : AV} {H2 : Heap} (hn : n ≤ 36) (hc : 0 ≤ c ∧ c < n) :
    Tr tbl J (.seq c7_o7 (.block 0 c7_l0)) (fun s h => s.get [false] = G B ∧ s.get [false, true] = G lot ∧ s.get [true, true] = G n ∧ s.get [false, false, false] = G c ∧ s.get [true, false, false] = x8 ∧ s.get [true, true, false] = .ptr b 0 2 ∧ TW H2 b h [] []) .normal
      (fun s h => s.get [false] = G B ∧ s.get [false, true] = G lot ∧ s.get [true, true] = G n ∧ s.get [false, false, false] = G c ∧ s.get [true, false, false] = x8 ∧ s.get [true, true, false] = .ptr b 0 2 ∧ TW H2 b h (zl (lA n c) n) (zl (lR n c) n)) := by
  have t1 : Tr tbl J ((.trim L7 c7_b0)) (fun s h => s.get [false] = G B ∧ s.get [false, true] = G lot ∧ s.get [true, true] = G n ∧ s.get [false, false, false] = G c ∧ s.get [true, false, false] = x8 ∧ s.get [true, true, false] = .ptr b 0 2 ∧ s.get [false, false, true] = G ((n : Nat) + 1) ∧ TW H2 b h (zl (lA n c) n) (zl (lR n c) n)) (.exit 0) (fun s h => s.get [false] = G B ∧ s.get [false, true] = G lot ∧ s.get [true, true] = G n ∧ s.get [false, false, false] = G c ∧ s.get [true, false, false] = x8 ∧ s.get [true, true, false] = .ptr b 0 2 ∧ TW H2 b h (zl (lA n c) n) (zl (lR n c) n)) := Tr.region fun s h hp => by
    obtain ⟨g0, g1, g2, g3, g4, g5, g6, hh0⟩ := hp
    simp (disch := first | omega | exact getEq rfl | exact getO0 | exact Nat.le_of_ble_eq_true rfl) [c7_b0, c7_o8, came_some, goI, List.getElem?_cons_zero, List.getElem?_cons_succ, kn, keep, app_growP, app_noneP, plus_N, plus_at0, put_plus0, upd_N, upd_size, putAt, AV.cells, fillA, loadA, takeA, mk, Eff.isAll, Eff.isNone, Eff.commutes, Eff.spares, okPair, apart, eqAgg, fits, LK.fits, allEq, aveq, eqk, mmA, beqT, wrapI, idxI, tdivI, tmodI, decT, decF, ibT, ibF, inT, inF, evScope_c, if_pos, if_neg, g0, g1, g2, g3, g4, g5, g6, hh0]
  have t0 : Tr tbl J (c7_o7) (fun s h => s.get [false] = G B ∧ s.get [false, true] = G lot ∧ s.get [true, true] = G n ∧ s.get [false, false, false] = G c ∧ s.get [true, false, false] = x8 ∧ s.get [true, true, false] = .ptr b 0 2 ∧ TW H2 b h [] []) .normal (fun s h => s.get [false] = G B ∧ s.get [false, true] = G lot ∧ s.get [true, true] = G n ∧ s.get [false, false, false] = G c ∧ s.get [true, false, false] = x8 ∧ s.get [true, true, false] = .ptr b 0 2 ∧ s.get [false, false, true] = G ((0 : Nat) + 1) ∧ TW H2 b h [] []) := Tr.region fun s h hp => by
    obtain ⟨g0, g1, g2, g3, g4, g5, hh0⟩ := hp
    simp (disch := first | omega | exact getEq rfl | exact getO0 | exact Nat.le_of_ble_eq_true rfl) [c7_o7, came_some, goI, List.getElem?_cons_zero, List.getElem?_cons_succ, kn, keep, app_growP, app_noneP, plus_N, plus_at0, put_plus0, upd_N, upd_size, putAt, AV.cells, fillA, loadA, takeA, mk, Eff.isAll, Eff.isNone, Eff.commutes, Eff.spares, okPair, apart, eqAgg, fits, LK.fits, allEq, aveq, eqk, mmA, beqT, wrapI, idxI, tdivI, tmodI, decT, decF, ibT, ibF, inT, inF, evScope_c, if_pos, if_neg, g0, g1, g2, g3, g4, g5, hh0]
  exact Tr.seq t0 (Tr.block (Tr.rounds (P := fun j => (fun s h => s.get [false] = G B ∧ s.get [false, true] = G lot ∧ s.get [true, true] = G n ∧ s.get [false, false, false] = G c ∧ s.get [true, false, false] = x8 ∧ s.get [true, true, false] = .ptr b 0 2 ∧ s.get [false, false, true] = G ((j : Nat) + 1) ∧ TW H2 b h (zl (lA n c) j) (zl (lR n c) j))) (M := n) (fun j hj => w7_step J hn hc j (by omega)) t1 (by simp) 0 (by omega)))

theorem w7_16 (J : CallF) (K : KnC J) (H : H7 x0 x1 x2 y lot c n B u v p q) (x8 x10 : AV) (h0 : Heap) : Tr tbl J c7_o16 (fun s h => s.get [false] = G B ∧ s.get [false, true] = G lot ∧ s.get [true, true] = G n ∧ s.get [false, false, false] = G c ∧ s.get [true, false, false] = x8 ∧ s.get [true, true, false] = x10 ∧ h = h0) .normal (fun s h => s.get [false] = G B ∧ s.get [false, true] = G lot ∧ s.get [true, true] = G n ∧ s.get [true, false, false] = x8 ∧ s.get [true, true, false] = x10 ∧ s.get [true, true, true] = .ptr h0.size 0 2 ∧ s.get [false, false, false, false] = G 0 ∧ h = h0.plus [.cells 0 2 [G u, G v]]) := by
  obtain ⟨e1, e2, e3, e4, r1, r2, r3, r4, e5, e6, e7, w, f⟩ := H
  have t : Tr tbl J (c7_o16) (fun s h => s.get [false] = G B ∧ s.get [false, true] = G lot ∧ s.get [true, true] = G n ∧ s.get [false, false, false] = G c ∧ s.get [true, false, false] = x8 ∧ s.get [true, true, false] = x10 ∧ h = h0) .normal (fun s h => s.get [false] = G B ∧ s.get [false, true] = G lot ∧ s.get [true, true] = G n ∧ s.get [true, false, false] = x8 ∧ s.get [true, true, false] = x10 ∧ s.get [true, true, true] = .ptr h0.size 0 2 ∧ s.get [false, false, false, false] = G 0 ∧ h = h0.plus [.cells 0 2 [G u, G v]]) := Tr.region fun s h hp => by
    obtain ⟨g0, g1, g2, g3, g4, g5, rfl⟩ := hp
    simp (disch := first | omega | exact getEq rfl | exact getO0 | exact Nat.le_of_ble_eq_true rfl) [c7_o16, came_some, goI, List.getElem?_cons_zero, List.getElem?_cons_succ, kn, keep, app_growP, app_noneP, plus_N, plus_at0, put_plus0, upd_N, upd_size, putAt, AV.cells, fillA, loadA, takeA, mk, Eff.isAll, Eff.isNone, Eff.commutes, Eff.spares, okPair, apart, eqAgg, fits, LK.fits, allEq, aveq, eqk, mmA, beqT, wrapI, idxI, tdivI, tmodI, decT, decF, ibT, ibF, inT, inF, evScope_c, if_pos, if_neg, g0, g1, g2, g3, g4, g5, K.k23, e5]
  exact t

theorem put_two (h : Heap) (a b : AV) (U V : AV) (zs : List AObj) : Eff.app (.put h.size 2 0 [U, V]) ((h.plus [.cells 0 2 [a, b]]).plus zs) = some ((h.plus [.cells 0 2 [U, V]]).plus zs) := by
  rw [plus_plus, plus_plus]; exact put_plus0 h 2 0 0 [a, b] [U, V] zs h.size rfl (by simp)
theorem put_two1 (h : Heap) (X : AObj) (a b : AV) (U V : AV) : Eff.app (.put (h.size + 1) 2 0 [U, V]) ((h.plus [X]).plus [.cells 0 2 [a, b]]) = some ((h.plus [X]).plus [.cells 0 2 [U, V]]) :=
  put_plus0 (h.plus [X]) 2 0 0 [a, b] [U, V] [] (h.size + 1) (by rw [plus_size]; rfl) (by simp)
theorem w7_17 (J : CallF) {b8 : Nat} {u v p q : Int} {xa xr : AV} (x10 x14 : AV) (h0 : Heap) (g8 : h0.get b8 = .cells 0 2 [xa, xr]) (k : J 34 [G lot, G B, .agg [xa, xr]] h0 = some (.tup [.agg [G u, G v], .agg [G p, G q], G 0], [], false)) :
    Tr tbl J c7_o17 (fun s h => s.get [false] = G B ∧ s.get [false, true] = G lot ∧ s.get [true, true] = G n ∧ s.get [true, false, false] = .ptr b8 0 2 ∧ s.get [true, true, false] = x10 ∧ s.get [true, true, true] = x14 ∧ s.get [false, false, false, false] = G 0 ∧ h = h0) .normal (fun s h => s.get [false] = G B ∧ s.get [false, true] = G lot ∧ s.get [true, true] = G n ∧ s.get [true, true, false] = x10 ∧ s.get [true, true, true] = x14 ∧ s.get [false, false, false, false] = G 0 ∧ s.get [true, false, false, false] = .ptr h0.size 0 2 ∧ s.get [false, true, false, false] = .ptr (h0.size + 1) 0 2 ∧ s.get [true, true, false, false] = G 0 ∧ h = (h0.plus [.cells 0 2 [G u, G v]]).plus [.cells 0 2 [G p, G q]]) := by
  have hs : ∀ X : AObj, (h0.plus [X]).size = h0.size + 1 := fun X => by rw [plus_size]; rfl
  have t : Tr tbl J (c7_o17) (fun s h => s.get [false] = G B ∧ s.get [false, true] = G lot ∧ s.get [true, true] = G n ∧ s.get [true, false, false] = .ptr b8 0 2 ∧ s.get [true, true, false] = x10 ∧ s.get [true, true, true] = x14 ∧ s.get [false, false, false, false] = G 0 ∧ h = h0) .normal (fun s h => s.get [false] = G B ∧ s.get [false, true] = G lot ∧ s.get [true, true] = G n ∧ s.get [true, true, false] = x10 ∧ s.get [true, true, true] = x14 ∧ s.get [false, false, false, false] = G 0 ∧ s.get [true, false, false, false] = .ptr h0.size 0 2 ∧ s.get [false, true, false, false] = .ptr (h0.size + 1) 0 2 ∧ s.get [true, true, false, false] = G 0 ∧ h = (h0.plus [.cells 0 2 [G u, G v]]).plus [.cells 0 2 [G p, G q]]) := Tr.region fun s h hp => by
    obtain ⟨g0, g1, g2, g3, g4, g5, g6, rfl⟩ := hp
    simp (disch := first | omega | exact getEq rfl | exact getO0 | exact Nat.le_of_ble_eq_true rfl) [c7_o17, came_some, goI, List.getElem?_cons_zero, List.getElem?_cons_succ, kn, keep, app_growP, app_noneP, plus_N, plus_at0, put_plus0, upd_N, upd_size, putAt, AV.cells, fillA, loadA, takeA, mk, Eff.isAll, Eff.isNone, Eff.commutes, Eff.spares, okPair, apart, eqAgg, fits, LK.fits, allEq, aveq, eqk, mmA, beqT, wrapI, idxI, tdivI, tmodI, decT, decF, ibT, ibF, inT, inF, evScope_c, if_pos, if_neg, g0, g1, g2, g3, g4, g5, g6, g8, k, hs, put_two, put_two1]
  exact t

theorem w7_18 (J : CallF) {b10 : Nat} {u v p q : Int} {xa xr : AV} (x14 x16 x17 : AV) (h0 : Heap) (g10 : h0.get b10 = .cells 0 2 [xa, xr]) (k : J 34 [G lot, G B, .agg [xa, xr]] h0 = some (.tup [.agg [G u, G v], .agg [G p, G q], G 0], [], false)) :
    Tr tbl J c7_o18 (fun s h => s.get [false] = G B ∧ s.get [false, true] = G lot ∧ s.get [true, true] = G n ∧ s.get [true, true, false] = .ptr b10 0 2 ∧ s.get [true, true, true] = x14 ∧ s.get [false, false, false, false] = G 0 ∧ s.get [true, false, false, false] = x16 ∧ s.get [false, true, false, false] = x17 ∧ s.get [true, true, false, false] = G 0 ∧ h = h0) .normal (fun s h => s.get [true, true] = G n ∧ s.get [true, true, true] = x14 ∧ s.get [false, false, false, false] = G 0 ∧ s.get [true, false, false, false] = x16 ∧ s.get [false, true, false, false] = x17 ∧ s.get [true, true, false, false] = G 0 ∧ s.get [false, false, true, false] = .ptr h0.size 0 2 ∧ s.get [true, false, true, false] = .ptr (h0.size + 1) 0 2 ∧ s.get [false, true, true, false] = G 0 ∧ h = (h0.plus [.cells 0 2 [G u, G v]]).plus [.cells 0 2 [G p, G q]]) := by
  have hs : ∀ X : AObj, (h0.plus [X]).size = h0.size + 1 := fun X => by rw [plus_size]; rfl
  have t : Tr tbl J (c7_o18) (fun s h => s.get [false] = G B ∧ s.get [false, true] = G lot ∧ s.get [true, true] = G n ∧ s.get [true, true, false] = .ptr b10 0 2 ∧ s.get [true, true, true] = x14 ∧ s.get [false, false, false, false] = G 0 ∧ s.get [true, false, false, false] = x16 ∧ s.get [false, true, false, false] = x17 ∧ s.get [true, true, false, false] = G 0 ∧ h = h0) .normal (fun s h => s.get [true, true] = G n ∧ s.get [true, true, true] = x14 ∧ s.get [false, false, false, false] = G 0 ∧ s.get [true, false, false, false] = x16 ∧ s.get [false, true, false, false] = x17 ∧ s.get [true, true, false, false] = G 0 ∧ s.get [false, false, true, false] = .ptr h0.size 0 2 ∧ s.get [true, false, true, false] = .ptr (h0.size + 1) 0 2 ∧ s.get [false, true, true, false] = G 0 ∧ h = (h0.plus [.cells 0 2 [G u, G v]]).plus [.cells 0 2 [G p, G q]]) := Tr.region fun s h hp => by
    obtain ⟨g0, g1, g2, g3, g4, g5, g6, g7, g8, rfl⟩ := hp
    simp (disch := first | omega | exact getEq rfl | exact getO0 | exact Nat.le_of_ble_eq_true rfl) [c7_o18, came_some, goI, List.getElem?_cons_zero, List.getElem?_cons_succ, kn, keep, app_growP, app_noneP, plus_N, plus_at0, put_plus0, upd_N, upd_size, putAt, AV.cells, fillA, loadA, takeA, mk, Eff.isAll, Eff.isNone, Eff.commutes, Eff.spares, okPair, apart, eqAgg, fits, LK.fits, allEq, aveq, eqk, mmA, beqT, wrapI, idxI, tdivI, tmodI, decT, decF, ibT, ibF, inT, inF, evScope_c, if_pos, if_neg, g0, g1, g2, g3, g4, g5, g6, g7, g8, g10, k, hs, put_two, put_two1]
  exact t

theorem w7_19 (J : CallF) (K : KnC J) {b14 b16 b17 b19 b20 : Nat} (hn : 1 ≤ n ∧ n ≤ 36) (w : vOk p q) (f : decide ((n : Int) * q < p * 1) = false) (h0 : Heap) (g14 : h0.get b14 = .cells 0 2 [G u, G v]) (g16 : h0.get b16 = .cells 0 2 [G u, G v]) (g17 : h0.get b17 = .cells 0 2 [G p, G q]) (g19 : h0.get b19 = .cells 0 2 [G u, G v]) (g20 : h0.get b20 = .cells 0 2 [G n, G 1]) :
    Tr tbl J (.seq c7_o19 .ret) (fun s h => s.get [true, true] = G n ∧ s.get [true, true, true] = .ptr b14 0 2 ∧ s.get [false, false, false, false] = G 0 ∧ s.get [true, false, false, false] = .ptr b16 0 2 ∧ s.get [false, true, false, false] = .ptr b17 0 2 ∧ s.get [true, true, false, false] = G 0 ∧ s.get [false, false, true, false] = .ptr b19 0 2 ∧ s.get [true, false, true, false] = .ptr b20 0 2 ∧ s.get [false, true, true, false] = G 0 ∧ h = h0) .ret (fun s h => s.get [true, false] = .bool true) := by
  have w' := w
  obtain ⟨w1, w2, w3⟩ := w
  have f' : p ≤ n * q := by have := of_decide_eq_false f; omega
  have t : Tr tbl J ((.seq c7_o19 .ret)) (fun s h => s.get [true, true] = G n ∧ s.get [true, true, true] = .ptr b14 0 2 ∧ s.get [false, false, false, false] = G 0 ∧ s.get [true, false, false, false] = .ptr b16 0 2 ∧ s.get [false, true, false, false] = .ptr b17 0 2 ∧ s.get [true, true, false, false] = G 0 ∧ s.get [false, false, true, false] = .ptr b19 0 2 ∧ s.get [true, false, true, false] = .ptr b20 0 2 ∧ s.get [false, true, true, false] = G 0 ∧ h = h0) .ret (fun s h => s.get [true, false] = .bool true) := Tr.region fun s h hp => by
    obtain ⟨g0, g1, g2, g3, g4, g5, g6, g7, g8, rfl⟩ := hp
    simp (disch := first | omega | exact getEq rfl | exact getO0 | exact Nat.le_of_ble_eq_true rfl) [c7_o19, came_some, goI, List.getElem?_cons_zero, List.getElem?_cons_succ, kn, keep, app_growP, app_noneP, plus_N, plus_at0, put_plus0, upd_N, upd_size, putAt, AV.cells, fillA, loadA, takeA, mk, Eff.isAll, Eff.isNone, Eff.commutes, Eff.spares, okPair, apart, eqAgg, fits, LK.fits, allEq, aveq, eqk, mmA, beqT, wrapI, idxI, tdivI, tmodI, decT, decF, ibT, ibF, inT, inF, evScope_c, if_pos, if_neg, g0, g1, g2, g3, g4, g5, g6, g7, g8, g14, g16, g17, g19, g20, K.k26, w', K.k27, f', K.k20]
  exact t
theorem curt_all (J : CallF) (K : KnC J) (hJ : ∀ a h, J 7 a h = none) (H : H7 x0 x1 x2 y lot c n B u v p q) : CallsTo tbl J 7 [.agg [G x0, G x1, G x2], G y] e0 (.bool true, [], false) := by
  obtain ⟨e1, e2, e3, e4, r1, r2, r3, r4, e5, e6, e7, w, f⟩ := id H
  refine Tr.fnv (cf := c7) (e := .ret) (s := T.set (T.set .leaf [] (.agg [G x0, G x1, G x2])) [false] (G y)) (by decide) rfl (hJ _ _) rfl rfl rfl (by simp) ?_
  refine Tr.post (Q := (fun s h => s.get [true, false] = .bool true)) (fun s h q => by simp [c7, q]) (Tr.app3 (w7_1 J K H) ?_)
  have r3' : 0 ≤ c ∧ c < n := r3
  obtain ⟨H1, s1⟩ : ∃ H, (⟨e0.get, 0, [.cells 0 3 [G x0, G x1, G x2]]⟩ : Heap) = H := ⟨_, rfl⟩
  have n1 : H1.N = 0 := by rw [← s1]
  rw [s1]
  clear s1
  refine Tr.seq (w7_3 J K r1 r2 r3' H1) ?_
  obtain ⟨H2, s2⟩ : ∃ H, (H1.plus (own32 H1.size n c)).plus [X7 H1.size n] = H := ⟨_, rfl⟩
  obtain ⟨b8, eb8⟩ : ∃ b, (H1.plus (own32 H1.size n c)).size = b := ⟨_, rfl⟩
  have g8 : H2.get b8 = X7 H1.size n := by rw [← s2]; exact plus_at0 _ _ _ _ eb8
  have fa : H2.get (H1.size + 5) = .cells 1 n (zs (cA n c) n) := by
    rw [← s2]; refine plus_keep _ ?_ (by simp)
    rw [plus_ge _ _ _ (by omega), Nat.add_sub_cancel_left]; rfl
  have fr' : H2.get (H1.size + 2) = .cells 1 n (List.replicate n (G (c + 1))) := by
    rw [← s2]; refine plus_keep _ ?_ (by simp)
    rw [plus_ge _ _ _ (by omega), Nat.add_sub_cancel_left]; rfl
  have n2 : H2.N = 0 := by rw [← s2]; exact n1
  rw [s2, eb8]
  generalize H1.size = S at *
  clear s2 eb8 n1 H1
  have l1 : ∀ h : Heap, h.get (S + 5) = .cells 1 n (zs (cA n c) n) → listOf h (.slice (S + 5) 0 n n) = some (zl (cA n c) n) := fun h e => listOf_cells (by rw [e, zs_map]) (zl_len _ _)
  have l2 : ∀ h : Heap, h.get (S + 2) = .cells 1 n (List.replicate n (G (c + 1))) → listOf h (.slice (S + 2) 0 n n) = some (List.replicate n (c + 1)) := fun h e => listOf_cells (by rw [e]; simp) (by simp)
  refine Tr.seq (w7_4 J K r1 r2 H2 g8 (l1 H2 fa) (l2 H2 fr') (curt_crs r2.1 r2.2 r3')) ?_
  refine Tr.seq (w7_6 J _ H2) ?_
  refine Tr.seq (w7_loop J (by omega) r3') ?_
  refine Tr.fix (F := fun h => TW H2 H2.size h (zl (lA n c) n) (zl (lR n c) n)) (P' := fun H => (fun s h => s.get [false] = G B ∧ s.get [false, true] = G lot ∧ s.get [true, true] = G n ∧ s.get [false, false, false] = G c ∧ s.get [true, false, false] = .ptr b8 0 2 ∧ s.get [true, true, false] = .ptr H2.size 0 2 ∧ h = H)) (fun H3 hT => ?_) (fun s h hp => ⟨hp.2.2.2.2.2.2, hp.1, hp.2.1, hp.2.2.1, hp.2.2.2.1, hp.2.2.2.2.1, hp.2.2.2.2.2.1, rfl⟩)
  obtain ⟨xa, xr, t⟩ := hT
  have k8 := t.k.at g8 (by simp) id
  have ka := t.k.at fa (by simp) id
  have kr := t.k.at fr' (by simp) id
  have k10 := t.g
  have la := t.a.list
  have lr := t.r.list
  generalize H2.size = b10 at *
  clear t fa fr' g8 n2
  have hlot : lotOk lot B := ⟨r1, by omega, by omega⟩
  have cy := curt_y (bad := B) r2.1 r2.2 r3
  have ly := late_y (bad := B) r2.1 r2.2 r3
  have lp := late_p (bad := B) r2.1 r2.2 r3
  have kc : ∀ h : Heap, h.get (S + 5) = .cells 1 n (zs (cA n c) n) → h.get (S + 2) = .cells 1 n (List.replicate n (G (c + 1))) → J 34 [G lot, G B, .agg [.slice (S + 5) 0 n n, .slice (S + 2) 0 n n]] h = some (.tup [.agg [G u, G v], .agg [G p, G q], G 0], [], false) := fun h q1 q2 => by
    rw [K.k34 h lot B _ _ _ _ (l1 h q1) (l2 h q2) hlot (curt_crs r2.1 r2.2 r3), zl_len, cy, e5, e6]
  have kl : ∀ h : Heap, listOf h xa = some (zl (lA n c) n) → listOf h xr = some (zl (lR n c) n) → J 34 [G lot, G B, .agg [xa, xr]] h = some (.tup [.agg [G u, G v], .agg [G n, G 1], G 0], [], false) := fun h q1 q2 => by
    rw [K.k34 h lot B _ _ _ _ q1 q2 hlot (late_crs r2.1 r2.2 r3), zl_len, ly, lp, e5, e7]
  refine Tr.seq (w7_16 J K H _ _ H3) ?_
  obtain ⟨H4, s4⟩ : ∃ H, H3.plus [.cells 0 2 [G u, G v]] = H := ⟨_, rfl⟩
  have g14 : H4.get H3.size = .cells 0 2 [G u, G v] := by rw [← s4]; exact plus_at0 _ _ _ _ rfl
  have k8 : H4.get b8 = X7 S n := by rw [← s4]; exact plus_keep _ k8 (by simp)
  have ka : H4.get (S + 5) = .cells 1 n (zs (cA n c) n) := by rw [← s4]; exact plus_keep _ ka (by simp)
  have kr : H4.get (S + 2) = .cells 1 n (List.replicate n (G (c + 1))) := by rw [← s4]; exact plus_keep _ kr (by simp)
  have k10 : H4.get b10 = .cells 0 2 [xa, xr] := by rw [← s4]; exact plus_keep _ k10 (by simp)
  have la : listOf H4 xa = some (zl (lA n c) n) := by rw [← s4]; exact listOf_plus _ la
  have lr : listOf H4 xr = some (zl (lR n c) n) := by rw [← s4]; exact listOf_plus _ lr
  rw [s4]
  generalize H3.size = b14 at *
  clear s4
  refine Tr.seq (w7_17 J _ _ H4 k8 (kc _ ka kr)) ?_
  obtain ⟨H5, s5⟩ : ∃ H, (H4.plus [.cells 0 2 [G u, G v]]).plus [.cells 0 2 [G p, G q]] = H := ⟨_, rfl⟩
  have kk : ∀ {b : Nat} {x : AObj}, H4.get b = x → x ≠ .hole → H5.get b = x := fun e hx => by rw [← s5]; exact plus_keep _ (plus_keep _ e hx) hx
  have g16 : H5.get H4.size = .cells 0 2 [G u, G v] := by rw [← s5]; exact plus_keep _ (plus_at0 _ _ _ _ rfl) (by simp)
  have g17 : H5.get (H4.size + 1) = .cells 0 2 [G p, G q] := by rw [← s5]; exact plus_at0 _ _ _ _ (by rw [plus_size]; rfl)
  have g14 := kk g14 (by simp)
  have k10 := kk k10 (by simp)
  have la : listOf H5 xa = some (zl (lA n c) n) := by rw [← s5]; exact listOf_plus _ (listOf_plus _ la)
  have lr : listOf H5 xr = some (zl (lR n c) n) := by rw [← s5]; exact listOf_plus _ (listOf_plus _ lr)
  rw [s5]
  generalize H4.size = b16 at *
  clear s5 kk
  refine Tr.seq (w7_18 J _ _ _ H5 k10 (kl _ la lr)) ?_
  obtain ⟨H6, s6⟩ : ∃ H, (H5.plus [.cells 0 2 [G u, G v]]).plus [.cells 0 2 [G n, G 1]] = H := ⟨_, rfl⟩
  have kk : ∀ {b : Nat} {x : AObj}, H5.get b = x → x ≠ .hole → H6.get b = x := fun e hx => by rw [← s6]; exact plus_keep _ (plus_keep _ e hx) hx
  have g19 : H6.get H5.size = .cells 0 2 [G u, G v] := by rw [← s6]; exact plus_keep _ (plus_at0 _ _ _ _ rfl) (by simp)
  have g20 : H6.get (H5.size + 1) = .cells 0 2 [G n, G 1] := by rw [← s6]; exact plus_at0 _ _ _ _ (by rw [plus_size]; rfl)
  rw [s6]
  exact w7_19 J K (by omega) w f H6 (kk g14 (by simp)) (kk g16 (by simp)) (kk g17 (by simp)) g19 g20
end

theorem curt_law (J : CallF) (K : KnC J) (hJ : ∀ a h, J 7 a h = none) (x0 x1 x2 y : Int) : CallsTo tbl J 7 [.agg [G x0, G x1, G x2], G y] e0 (.bool true, [], false) := by
  have hl := lotZ_in x0
  have hn := nZ_in x0 x1
  have hc := cZ_in x0 x1 x2
  generalize e1 : lotZ x0 = lot at *
  generalize e2 : nZ x0 x1 = n' at *
  generalize e3 : cZ x0 x1 x2 = c at *
  have m1 := mdZ_lo y (show 0 < lot + 1 by omega)
  have m2 := mdZ_hi y (show 0 < lot + 1 by omega)
  obtain ⟨B, e4⟩ : ∃ B : Nat, mdZ y (lot + 1) = B := ⟨(mdZ y (lot + 1)).toNat, by omega⟩
  obtain ⟨n, rfl⟩ : ∃ N : Nat, n' = N := ⟨n'.toNat, by omega⟩
  have r2 : 1 ≤ n ∧ (n : Int) ≤ lot := by omega
  have r3 : 0 ≤ c ∧ c < n := by omega
  have z1 := ofZ_pos (n := lot) (k := (B : Int)) (by omega) (by omega)
  have z2 := ofZ_big (n := lot) (k := (B : Int)) (by omega)
  have z3 := curt_p (bad := B) r2.1 r2.2 r3
  generalize hP : pT lot B ((zl (cA n c) n).getD · 0) ((List.replicate n (c + 1)).getD · 0) n = P at *
  have z4 : n * ofZ lot B ≤ 36 * 9075135300 := Nat.mul_le_mul (by omega) z2
  obtain ⟨g0, u, v, a1, a2, a3, a4, a5, a6, a7⟩ := fr_two (x := acc lot B n (c.toNat + 1)) (y := ofZ lot B) (by omega) (by omega)
  obtain ⟨g1, p, q, b1, b2, b3, b4, b5, b6, b7⟩ := fr_two (x := P) (y := ofZ lot B) (by omega) (by omega)
  obtain ⟨g2, s, w, c1, c2, c3, c4, c5, c6, c7⟩ := fr_two (x := (n * ofZ lot B : Nat)) (y := ofZ lot B) (by omega) (by omega)
  have hv : s = n * w := by
    have q : g2 * s = g2 * (n * w) := by
      rw [← c2, Int.natCast_mul, c3, ← Int.mul_assoc, ← Int.mul_assoc, Int.mul_comm (n : Int) g2]
    exact Int.eq_of_mul_eq_mul_left (by omega) q
  have hw : w = 1 := by
    obtain ⟨W, rfl⟩ : ∃ W : Nat, w = W := ⟨w.toNat, by omega⟩
    rw [hv, ← Int.natCast_mul] at c7
    simp only [Int.toNat_natCast, Nat.gcd_mul_left_left] at c7
    omega
  have hs : s = n := by rw [hv, hw, Int.mul_one]
  have hf : p * 1 ≤ n * q := by
    have q1 : g1 * p ≤ g1 * (n * q) := by
      have : (P : Int) ≤ (n * ofZ lot B : Nat) := by omega
      rw [Int.natCast_mul, b2, b3] at this
      rw [← Int.mul_assoc, Int.mul_comm g1 (n : Int), Int.mul_assoc]
      exact this
    rw [Int.mul_one]
    exact Int.le_of_mul_le_mul_left q1 b1
  exact curt_all J K hJ ⟨e1, e2, e3, e4, hl, r2, r3, by omega, a4, by rw [hP]; exact b4, by rw [c4, hs, hw], ⟨by omega, by omega, b7⟩, decide_eq_false (Int.not_lt.2 hf)⟩

theorem curt_ok (x0 x1 x2 y : Int) : CallsTo tbl D8 7 [.agg [G x0, G x1, G x2], G y] e0 (.bool true, [], false) := curt_law D8 knC8 (fun _ _ => rfl) x0 x1 x2 y

end Go.Proofs.Ytlkgpcfhpeilhaa.Ev
