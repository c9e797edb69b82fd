/-
  What Course answers: the chance that a course accepts, and the mean number of pieces. No condition.
-/
import Derived.Test.YtlkgpcfhpeilhaaSStops
set_option linter.unusedVariables false
set_option linter.unusedSimpArgs false
namespace Go.Proofs.Ytlkgpcfhpeilhaa.Ev
open Go Go.AEv

attribute [local simp] evFunc initS evOps_c evTrim_c evSkip_c evExit_c evRet_c evSeq_c evCond_c evBlock_c evDraw_c runOps_n runOps_c exec_n exec_g pure1_c act AOpd.ev T.get T.set T.put evBin evUn forceT_eq forceV_eq forceL_eq evRess evRes one keep runFP_n runFP_c app_none AV.flats AV.flat

/-- stops itself: its arguments are kept in blocks of their own. -/
theorem c63_ok (J : CallF) (hJ : ∀ a h, J 63 a h = none) (h : Heap) (tb : Nat) (lot bad : Int) (x y : AV) : CallsTo tbl J 63 [.ptr tb 0 1369, G lot, G bad, .agg [x, y]] h
    (.func 70 [.ptr (h.size + 3) 0 2, .ptr h.size 0 1, .ptr (h.size + 1) 0 1, .ptr (h.size + 2) 0 1], [.cells 0 1 [.ptr tb 0 1369], .cells 0 1 [G lot], .cells 0 1 [G bad], .cells 0 2 [x, y]], false) := by
  refine Tr.fnh (cf := c63) (e := .ret) (s := T.set (T.set (T.set (T.set .leaf [] (.ptr tb 0 1369)) [false] (G lot)) [true] (G bad)) [false, false] (.agg [x, y])) (by decide) rfl (hJ _ _) rfl rfl rfl (by simp) ?_
  refine Tr.post (Q := (fun s h' => s.get [true, false, false] = .func 70 [.ptr (h.size + 3) 0 2, .ptr h.size 0 1, .ptr (h.size + 1) 0 1, .ptr (h.size + 2) 0 1] ∧ h' = ⟨h.get, h.size, [.cells 0 1 [.ptr tb 0 1369], .cells 0 1 [G lot], .cells 0 1 [G bad], .cells 0 2 [x, y]]⟩)) (fun s h' q => by
    obtain ⟨q1, rfl⟩ := q
    simp [c63, q1]) ?_
  have t : Tr tbl J ((.seq c63_o0 (.seq c63_o1 .ret))) (fun s h' => s = T.set (T.set (T.set (T.set .leaf [] (.ptr tb 0 1369)) [false] (G lot)) [true] (G bad)) [false, false] (.agg [x, y]) ∧ h' = frameOf h) .ret (fun s h' => s.get [true, false, false] = .func 70 [.ptr (h.size + 3) 0 2, .ptr h.size 0 1, .ptr (h.size + 1) 0 1, .ptr (h.size + 2) 0 1] ∧ h' = ⟨h.get, h.size, [.cells 0 1 [.ptr tb 0 1369], .cells 0 1 [G lot], .cells 0 1 [G bad], .cells 0 2 [x, y]]⟩) := Tr.region fun s h hp => by
    obtain ⟨rfl, rfl⟩ := hp
    simp (disch := first | omega | exact getEq rfl | exact getO0 | exact Nat.le_of_ble_eq_true rfl) [c63_o0, c63_o1, frameOf, came_some, goI, List.getElem?_cons_zero, List.getElem?_cons_succ, kn, keep, frameOf, size_mk, get_mk_lt, get_mk_ge, Eff.app, Heap.setOwn, putAt, AV.cells, fillA, loadA, takeA, mk, Eff.isAll, Eff.isNone, Eff.commutes, Eff.spares, okPair, apart, eqAgg, fits, LK.fits, allEq, aveq, eqk, mmA, beqT, wrapI, idxI, tdivI, tmodI, decT, decF, ibT, ibF, inT, inF, evScope_c, if_pos, if_neg]
  exact t
def spec63 : SpecF := fun args h => match args with
  | [.ptr tb 0 1369, .int .i64 lot, .int .i64 bad, .agg [x, y]] => some (.func 70 [.ptr (h.size + 3) 0 2, .ptr h.size 0 1, .ptr (h.size + 1) 0 1, .ptr (h.size + 2) 0 1], [.cells 0 1 [.ptr tb 0 1369], .cells 0 1 [G lot], .cells 0 1 [G bad], .cells 0 2 [x, y]], false)
  | _ => none

/-! ### One visit -/
structure CI (S : Nat) (s0 : T) (a q : Nat) (h : Heap) : Prop where
  n0 : h.N = S
  l : h.get (S + 10) = .loop .ready none s0 [[true, false, false, false, false], [false, true, false, false, false]] (.seq c34_o8 c34_o9) c34_r0
  fa : h.get (S + 4) = .cells 0 1 [G a]
  fq : h.get (S + 5) = .cells 0 1 [G q]
abbrev M34 (S b : Nat) : Prop := b = S + 10 ∨ b = S + 4 ∨ b = S + 5
section
variable {S a q y z i : Nat} {s0 : T}
theorem cv_body (J : CallF) (X : Heap) (d : Nat) (hN : X.N = S) (fa : X.get (S + 4) = .cells 0 1 [G a]) (fq : X.get (S + 5) = .cells 0 1 [G q]) (fd : X.get d = .cells 0 2 [G y, G z]) (hd1 : d ≠ S + 4) (ba : a ≤ 1000000000000000) (bq : q ≤ 1000000000000000) (bi : i < 36) (by' : y + z ≤ 68719476736) :
    Tr tbl J c34_r0 (fun s h => s.get [true, true, false] = .ptr (S + 4) 0 1 ∧ s.get [false, false, true] = .ptr (S + 5) 0 1 ∧ s.get [true, false, true] = G ((i + 1 : Nat) : Int) ∧ s.get [false, true, true] = .ptr d 0 2 ∧ h = X) .normal (fun s h => h = (X.upd (S + 4) (.cells 0 1 [G ((a + y : Nat) : Int)])).upd (S + 5) (.cells 0 1 [G ((q + (i + 1) * (y + z) : Nat) : Int)])) := by
  have p1 : Eff.app (.put (S + 4) 1 0 [G ((a : Int) + y)]) X = some (X.upd (S + 4) (.cells 0 1 [G ((a : Int) + y)])) := put_gen _ _ _ _ _ _ _ (by omega) fa (by simp)
  have f2 : (X.upd (S + 4) (.cells 0 1 [G ((a : Int) + y)])).get (S + 5) = .cells 0 1 [G q] := by rw [upd_ne _ _ _ _ (by omega) (by omega)]; exact fq
  have f3 : (X.upd (S + 4) (.cells 0 1 [G ((a : Int) + y)])).get d = .cells 0 2 [G y, G z] := by rw [upd_ne _ _ _ _ (by omega) (by omega)]; exact fd
  have p2 : Eff.app (.put (S + 5) 1 0 [G ((q : Int) + ((i : Int) + 1) * ((y : Int) + z))]) (X.upd (S + 4) (.cells 0 1 [G ((a : Int) + y)])) = some ((X.upd (S + 4) (.cells 0 1 [G ((a : Int) + y)])).upd (S + 5) (.cells 0 1 [G ((q : Int) + ((i : Int) + 1) * ((y : Int) + z))])) := put_gen _ _ _ _ _ _ _ (by rw [upd_N]; omega) f2 (by simp)
  obtain ⟨w1, w2⟩ := mul_bd (x := (i : Int) + 1) (y := (y : Int) + z) (X := 36) (Y := 68719476736) (by omega) (by omega) (by omega) (by omega)
  have ew : ((q + (i + 1) * (y + z) : Nat) : Int) = (q : Int) + ((i : Int) + 1) * ((y : Int) + z) := by simp
  rw [ew]
  have t6 : Tr tbl J (c34_o6) (fun s h => s.get [true, true, false] = .ptr (S + 4) 0 1 ∧ s.get [false, false, true] = .ptr (S + 5) 0 1 ∧ s.get [true, false, true] = G ((i + 1 : Nat) : Int) ∧ s.get [false, true, true] = .ptr d 0 2 ∧ h = X) .normal (fun s h => s.get [false, false, true] = .ptr (S + 5) 0 1 ∧ s.get [true, false, true] = G ((i + 1 : Nat) : Int) ∧ s.get [false, true, true] = .ptr d 0 2 ∧ h = X.upd (S + 4) (.cells 0 1 [G ((a + y : Nat) : Int)])) := Tr.region fun s h hp => by
    obtain ⟨g0, g1, g2, g3, rfl⟩ := hp
    simp (disch := first | omega | exact getEq rfl | exact getO0 | exact Nat.le_of_ble_eq_true rfl) [c34_o6, came_some, goI, List.getElem?_cons_zero, List.getElem?_cons_succ, kn, keep, app_growP, app_noneP, plus_N, plus_at0, put_plus0, upd_N, upd_size, putAt, AV.cells, fillA, loadA, takeA, mk, Eff.isAll, Eff.isNone, Eff.commutes, Eff.spares, okPair, apart, eqAgg, fits, LK.fits, allEq, aveq, eqk, mmA, beqT, wrapI, idxI, tdivI, tmodI, decT, decF, ibT, ibF, inT, inF, evScope_c, if_pos, if_neg, g0, g1, g2, g3, fa, fd, p1]
  have t7 : Tr tbl J (c34_o7) (fun s h => s.get [false, false, true] = .ptr (S + 5) 0 1 ∧ s.get [true, false, true] = G ((i + 1 : Nat) : Int) ∧ s.get [false, true, true] = .ptr d 0 2 ∧ h = X.upd (S + 4) (.cells 0 1 [G ((a + y : Nat) : Int)])) .normal (fun s h => h = (X.upd (S + 4) (.cells 0 1 [G ((a + y : Nat) : Int)])).upd (S + 5) (.cells 0 1 [G ((q : Int) + ((i : Int) + 1) * ((y : Int) + z))])) := Tr.region fun s h hp => by
    obtain ⟨g0, g1, g2, rfl⟩ := hp
    rw [show ((a + y : Nat) : Int) = (a : Int) + y by omega]
    simp (disch := first | omega | exact getEq rfl | exact getO0 | exact Nat.le_of_ble_eq_true rfl) [c34_o7, came_some, goI, List.getElem?_cons_zero, List.getElem?_cons_succ, kn, keep, app_growP, app_noneP, plus_N, plus_at0, put_plus0, upd_N, upd_size, putAt, AV.cells, fillA, loadA, takeA, mk, Eff.isAll, Eff.isNone, Eff.commutes, Eff.spares, okPair, apart, eqAgg, fits, LK.fits, allEq, aveq, eqk, mmA, beqT, wrapI, idxI, tdivI, tmodI, decT, decF, ibT, ibF, inT, inF, evScope_c, if_pos, if_neg, g0, g1, g2, f2, f3, p2]
  exact Tr.block_out (Tr.seq t6 t7) (by simp)

theorem cv_yield (J : CallF) (h : Heap) (x : CI S s0 a q h) (h10 : s0.get [true, true, false] = .ptr (S + 4) 0 1) (h11 : s0.get [false, false, true] = .ptr (S + 5) 0 1) (ba : a ≤ 1000000000000000) (bq : q ≤ 1000000000000000) (bi : i < 36) (by' : y + z ≤ 68719476736) :
    ∃ own, CallsTo tbl J 0 [.yld (S + 10), G ((i + 1 : Nat) : Int), .agg [G y, G z]] h (.bool true, own, true) ∧ Kp (M34 S) h ⟨h.lo, h.N, own⟩ ∧ CI S s0 (a + y) (q + (i + 1) * (y + z)) ⟨h.lo, h.N, own⟩ := by
  obtain ⟨n0, l, fa, fq⟩ := x
  have hlt := get_lt l (by simp)
  have t8 : Tr tbl J (.seq c34_o8 c34_o9) (fun s h' => s.get [true, true, false] = .ptr (S + 4) 0 1 ∧ s.get [false, false, true] = .ptr (S + 5) 0 1 ∧ s.get [true, false, false, false, false] = G ((i + 1 : Nat) : Int) ∧ s.get [false, true, false, false, false] = .agg [G y, G z] ∧ h' = h) .normal (fun s h' => s.get [true, true, false] = .ptr (S + 4) 0 1 ∧ s.get [false, false, true] = .ptr (S + 5) 0 1 ∧ s.get [true, false, true] = G ((i + 1 : Nat) : Int) ∧ s.get [false, true, true] = .ptr h.size 0 2 ∧ h' = h.plus [.cells 0 2 [G y, G z]]) := by
    have t : Tr tbl J ((.seq c34_o8 c34_o9)) (fun s h' => s.get [true, true, false] = .ptr (S + 4) 0 1 ∧ s.get [false, false, true] = .ptr (S + 5) 0 1 ∧ s.get [true, false, false, false, false] = G ((i + 1 : Nat) : Int) ∧ s.get [false, true, false, false, false] = .agg [G y, G z] ∧ h' = h) .normal (fun s h' => s.get [true, true, false] = .ptr (S + 4) 0 1 ∧ s.get [false, false, true] = .ptr (S + 5) 0 1 ∧ s.get [true, false, true] = G ((i + 1 : Nat) : Int) ∧ s.get [false, true, true] = .ptr h.size 0 2 ∧ h' = h.plus [.cells 0 2 [G y, G z]]) := Tr.region fun s h hp => by
      obtain ⟨g0, g1, g2, g3, rfl⟩ := hp
      simp (disch := first | omega | exact getEq rfl | exact getO0 | exact Nat.le_of_ble_eq_true rfl) [c34_o8, c34_o9, came_some, goI, List.getElem?_cons_zero, List.getElem?_cons_succ, kn, keep, app_growP, app_noneP, plus_N, plus_at0, put_plus0, upd_N, upd_size, putAt, AV.cells, fillA, loadA, takeA, mk, Eff.isAll, Eff.isNone, Eff.commutes, Eff.spares, okPair, apart, eqAgg, fits, LK.fits, allEq, aveq, eqk, mmA, beqT, wrapI, idxI, tdivI, tmodI, decT, decF, ibT, ibF, inT, inF, evScope_c, if_pos, if_neg, g0, g1, g2, g3]
    exact t
  obtain ⟨s1, h1, r1, q0, q1, q2, q3, rfl⟩ := t8 ((s0.set [true, false, false, false, false] (G ((i + 1 : Nat) : Int))).set [false, true, false, false, false] (.agg [G y, G z])) h
    ⟨by rw [T.get_set, if_neg (by simp), T.get_set, if_neg (by simp)]; exact h10, by rw [T.get_set, if_neg (by simp), T.get_set, if_neg (by simp)]; exact h11, by rw [T.get_set, if_neg (by simp), T.get_set, if_pos rfl], by rw [T.get_set, if_pos rfl], rfl⟩
  have l1 : (h.plus [.cells 0 2 [G y, G z]]).get (S + 10) = .loop .ready none s0 [[true, false, false, false, false], [false, true, false, false, false]] (.seq c34_o8 c34_o9) c34_r0 := plus_keep _ l (by simp)
  obtain ⟨X, hX⟩ : ∃ X, (h.plus [.cells 0 2 [G y, G z]]).upd (S + 10) (.loop .busy none s0 [[true, false, false, false, false], [false, true, false, false, false]] (.seq c34_o8 c34_o9) c34_r0) = X := ⟨_, rfl⟩
  have kX : Kp (M34 S) h X := by rw [← hX]; exact (Kp.plus h _).trans (Kp.upd _ _ _ (by rw [plus_N]; omega) (.inl rfl))
  have nX : X.N = S := by rw [kX.N, n0]
  have xa : X.get (S + 4) = .cells 0 1 [G a] := by rw [← hX, upd_ne _ _ _ _ (by rw [plus_N]; omega) (by omega)]; exact plus_keep _ fa (by simp)
  have xq : X.get (S + 5) = .cells 0 1 [G q] := by rw [← hX, upd_ne _ _ _ _ (by rw [plus_N]; omega) (by omega)]; exact plus_keep _ fq (by simp)
  have xd : X.get h.size = .cells 0 2 [G y, G z] := by rw [← hX, upd_ne _ _ _ _ (by rw [plus_N]; omega) (by omega)]; exact plus_at0 _ _ _ _ rfl
  have xl : X.get (S + 10) = .loop .busy none s0 [[true, false, false, false, false], [false, true, false, false, false]] (.seq c34_o8 c34_o9) c34_r0 := by rw [← hX]; exact upd_same _ _ _ (by rw [plus_N]; omega) (by rw [plus_size]; omega)
  obtain ⟨s2, h2, r2, rfl⟩ := cv_body J X h.size nX xa xq xd (by omega) ba bq bi by' s1 X ⟨q0, q1, q2, q3, rfl⟩
  have hXs := get_lt xl (by simp)
  obtain ⟨Y, hY⟩ : ∃ Y, (X.upd (S + 4) (.cells 0 1 [G ((a + y : Nat) : Int)])).upd (S + 5) (.cells 0 1 [G ((q + (i + 1) * (y + z) : Nat) : Int)]) = Y := ⟨_, rfl⟩
  rw [hY] at r2
  have kY : Kp (M34 S) X Y := by rw [← hY]; exact (Kp.upd _ _ _ (by omega) (.inr (.inl rfl))).trans (Kp.upd _ _ _ (by rw [upd_N]; omega) (.inr (.inr rfl)))
  have nY : Y.N = S := by rw [kY.N, nX]
  have yl : Y.get (S + 10) = .loop .busy none s0 [[true, false, false, false, false], [false, true, false, false, false]] (.seq c34_o8 c34_o9) c34_r0 := by rw [← hY, upd_ne _ _ _ _ (by rw [upd_N]; omega) (by omega), upd_ne _ _ _ _ (by omega) (by omega)]; exact xl
  have ya : Y.get (S + 4) = .cells 0 1 [G ((a + y : Nat) : Int)] := by rw [← hY, upd_ne _ _ _ _ (by rw [upd_N]; omega) (by omega)]; exact upd_same _ _ _ (by omega) (by omega)
  have yq : Y.get (S + 5) = .cells 0 1 [G ((q + (i + 1) * (y + z) : Nat) : Int)] := by rw [← hY]; exact upd_same _ _ _ (by rw [upd_N]; omega) (by rw [upd_size]; omega)
  have hYs := get_lt yl (by simp)
  rw [← hX] at r2
  have hc := CallsTo.yld (args := [G ((i + 1 : Nat) : Int), .agg [G y, G z]]) (by omega) l rfl r1 (by rw [plus_N]; omega) l1 r2 (by omega) yl
  have hYo : (⟨h.lo, h.N, (Y.upd (S + 10) (.loop .ready none s0 [[true, false, false, false, false], [false, true, false, false, false]] (.seq c34_o8 c34_o9) c34_r0)).own⟩ : Heap) = Y.upd (S + 10) (.loop .ready none s0 [[true, false, false, false, false], [false, true, false, false, false]] (.seq c34_o8 c34_o9) c34_r0) := by
    rw [← kX.lo, ← kX.N, ← kY.lo, ← kY.N]; rfl
  refine ⟨_, hc, ?_, ?_⟩
  · rw [hYo]; exact (kX.trans kY).trans (Kp.upd _ _ _ (by omega) (.inl rfl))
  · rw [hYo]
    exact ⟨nY, upd_same _ _ _ (by omega) hYs, by rw [upd_ne _ _ _ _ (by omega) (by omega)]; exact ya, by rw [upd_ne _ _ _ _ (by omega) (by omega)]; exact yq⟩
end


/-! ### The whole -/
theorem CI.kp {S : Nat} {s0 : T} {a q : Nat} {h h' : Heap} (x : CI S s0 a q h) (k : Kp (· = S + 11) h h') : CI S s0 a q h' :=
  ⟨by rw [k.N, x.n0], k.at x.l (by simp) (by omega), k.at x.fa (by simp) (by omega), k.at x.fq (by simp) (by omega)⟩
structure I34 (S : Nat) (s0 : T) (lot bad : Int) (A R : Nat → Int) (i : Nat) (h : Heap) : Prop where
  c : CI S s0 (yT lot bad A R i) (pT lot bad A R i) h
  f1 : h.get (S + 1) = .cells 0 2 [G 0, G 0]
  f2 : h.get (S + 2) = .cells 0 2 [G 0, G 0]
def gp34 (S bA vA bR vR n : Nat) (lot bad : Int) (A R : Nat → Int) (ca cr : List AV) : Gp := ⟨S + 10, S + 9, S + 6, S + 7, S + 8, S + 3, bA, vA, bR, vR, n, S + 11, lot, bad, A, R, ca, cr⟩
structure H4 (lot bad : Int) (n : Nat) : Prop where
  n1 : 1 ≤ n
  n2 : (n : Int) ≤ lot
  l2 : lot ≤ 36
  b1 : 0 ≤ bad
  b2 : bad ≤ lot
theorem feed34 (J : CallF) {S bA vA bR vR n : Nat} {lot bad : Int} {A R : Nat → Int} {ca cr : List AV} {s0 : T} (g : H4 lot bad n) (hA : bA < S) (hR : bR < S) (h10 : s0.get [true, true, false] = .ptr (S + 4) 0 1) (h11 : s0.get [false, false, true] = .ptr (S + 5) 0 1) :
    Feed J (gp34 S bA vA bR vR n lot bad A R ca cr) (M34 S) (I34 S s0 lot bad A R) := by
  have n2 := g.n2
  have l2 := g.l2
  have b1 := g.b1
  have b2 := g.b2
  refine ⟨fun i h hi x => ?_, fun i h h' x k => ?_, ?_, ?_⟩
  · have hi' : i < n := hi
    have k1 := yT_le (lot := lot) (bad := bad) (A := A) (R := R) b1 b2 i (by omega)
    have k2 := pT_le (lot := lot) (bad := bad) (A := A) (R := R) b1 b2 l2 i (by omega)
    have k3 := ofZ_36 (lot := lot) (bad := bad) l2
    have k4 := Nat.mul_le_mul (show i ≤ 36 by omega) k3
    have k5 := Nat.mul_le_mul (show i ≤ 36 by omega) (Nat.mul_le_mul_left 36 k3)
    have k6 := yn_all (lot := lot) (bad := bad) (A := A) (R := R) i (i + 2) (by omega) b1 b2
    obtain ⟨own, hc, kk, hx⟩ := cv_yield (i := i) (y := yC lot bad A R i) (z := nC lot bad A R i) J h x.c h10 h11 (by omega) (by omega) (by omega) (by unfold yC nC; omega)
    exact ⟨own, hc, kk, hx, kk.at x.f1 (by simp) (by unfold M34; omega), kk.at x.f2 (by simp) (by unfold M34; omega)⟩
  · exact ⟨x.c.kp k, k.at x.f1 (by simp) (by show ¬ S + 1 = S + 11; omega), k.at x.f2 (by simp) (by show ¬ S + 2 = S + 11; omega)⟩
  · constructor <;> (simp only [gp34, M34]; omega)
  · simp only [gp34, M34]; omega

abbrev H34 (h : Heap) (x y : AV) (lot bad : Int) : Heap := ⟨h.get, h.size, [.cells 0 2 [x, y], .cells 0 2 [G 0, G 0], .cells 0 2 [G 0, G 0], .cells 0 1369 (tri 37 0), .cells 0 1 [G 0], .cells 0 1 [G 0], .cells 0 1 [.ptr (h.size + 3) 0 1369], .cells 0 1 [G lot], .cells 0 1 [G bad], .cells 0 2 [x, y]]⟩
structure Z34 (S : Nat) (a q : Nat) (h : Heap) : Prop where
  n0 : h.N = S
  fa : h.get (S + 4) = .cells 0 1 [G a]
  fq : h.get (S + 5) = .cells 0 1 [G q]
  f1 : h.get (S + 1) = .cells 0 2 [G 0, G 0]
  f2 : h.get (S + 2) = .cells 0 2 [G 0, G 0]
  ft : h.get (S + 3) = .cells 0 1369 (tri 37 0)
section
variable {bA vA bR vR n : Nat} {lot bad : Int} {A R : Nat → Int} {ca cr : List AV}
abbrev F34 (S : Nat) (lot bad : Int) : SP := (fun s h => s.get [] = G lot ∧ s.get [false] = G bad ∧ s.get [true, true] = .ptr (S + 1) 0 2 ∧ s.get [false, false, false] = .ptr (S + 2) 0 2 ∧ s.get [false, true, false] = .ptr (S + 3) 0 1369 ∧ s.get [true, true, false] = .ptr (S + 4) 0 1 ∧ s.get [false, false, true] = .ptr (S + 5) 0 1)

theorem c34_range (J : CallF) (K : Kn J) (h70 : ∀ a h, J 70 a h = none) (g : H4 lot bad n) (h : Heap) (gA : h.get bA = .cells 1 vA ca) (gR : h.get bR = .cells 1 vR cr) (hca : ∀ i, i < n → ca[i]? = some (G (A i))) (hcr : ∀ i, i < n → cr[i]? = some (G (R i))) :
    Tr tbl J (.range (.s [false, false, false, false, false]) [[true, false, false, false, false], [false, true, false, false, false]] (.seq c34_o8 c34_o9) c34_r0) (fun s h' => F34 h.size lot bad s h' ∧ s.get [false, false, false, false, false] = .func 70 [.ptr (h.size + 9) 0 2, .ptr (h.size + 6) 0 1, .ptr (h.size + 7) 0 1, .ptr (h.size + 8) 0 1] ∧ h' = H34 h (.slice bA 0 n vA) (.slice bR 0 n vR) lot bad) .normal
      (fun s h' => F34 h.size lot bad s h' ∧ Z34 h.size (yT lot bad A R n) (pT lot bad A R n) h') := fun s h' hp => by
  obtain ⟨hF, h31, hH⟩ := hp
  have lA := get_lt gA (by simp)
  have lR := get_lt gR (by simp)
  have hs : h'.size = h.size + 10 := by rw [hH]; rfl
  have hN : h'.N = h.size := by rw [hH]
  have hget : ∀ j x, [AObj.cells 0 2 [.slice bA 0 n vA, .slice bR 0 n vR], .cells 0 2 [G 0, G 0], .cells 0 2 [G 0, G 0], .cells 0 1369 (tri 37 0), .cells 0 1 [G 0], .cells 0 1 [G 0], .cells 0 1 [.ptr (h.size + 3) 0 1369], .cells 0 1 [G lot], .cells 0 1 [G bad], .cells 0 2 [.slice bA 0 n vA, .slice bR 0 n vR]][j]? = some x → h'.get (h.size + j) = x := fun j x hx => by
    rw [hH, get_mk_ge _ _ _ _ (by omega), Nat.add_sub_cancel_left, List.getD_eq_getElem?_getD, hx]; rfl
  have hlo : ∀ b, b < h.size → h'.get b = h.get b := fun b hb => by rw [hH, get_mk_lt _ _ _ _ hb]
  obtain ⟨H0, hH0⟩ : ∃ X, h'.plus [.loop .ready none s [[true, false, false, false, false], [false, true, false, false, false]] (.seq c34_o8 c34_o9) c34_r0] = X := ⟨_, rfl⟩
  have k0 : ∀ b x, h'.get b = x → x ≠ .hole → H0.get b = x := fun b x e hx => by rw [← hH0]; exact plus_keep _ e hx
  have hf : GF (gp34 h.size bA vA bR vR n lot bad A R ca cr) H0 :=
    ⟨k0 _ _ (hget 9 _ rfl) (by simp), k0 _ _ ((hlo _ lA).trans gA) (by simp), k0 _ _ ((hlo _ lR).trans gR) (by simp), k0 _ _ (hget 6 _ rfl) (by simp), k0 _ _ (hget 7 _ rfl) (by simp), k0 _ _ (hget 8 _ rfl) (by simp), k0 _ _ (hget 3 _ rfl) (by simp)⟩
  have hg : GH (gp34 h.size bA vA bR vR n lot bad A R ca cr) := ⟨g.n1, g.n2, g.l2, g.b1, g.b2, hca, hcr, by constructor <;> (simp only [gp34]; omega)⟩
  have hl0 : H0.get (h.size + 10) = .loop .ready none s [[true, false, false, false, false], [false, true, false, false, false]] (.seq c34_o8 c34_o9) c34_r0 := by rw [← hH0]; exact plus_at0 _ _ _ _ hs
  have hi0 : I34 h.size s lot bad A R 0 H0 := ⟨⟨by rw [← hH0, plus_N, hN], hl0, k0 _ _ (hget 4 _ rfl) (by simp), k0 _ _ (hget 5 _ rfl) (by simp)⟩, k0 _ _ (hget 1 _ rfl) (by simp), k0 _ _ (hget 2 _ rfl) (by simp)⟩
  have hF' := hF
  obtain ⟨g0, g1, g6, g7, g9, g10, g11⟩ := hF'
  obtain ⟨own, hc, w⟩ := c70_ok J K h70 hg (feed34 (S := h.size) (bA := bA) (vA := vA) (bR := bR) (vR := vR) (A := A) (R := R) (ca := ca) (cr := cr) (s0 := s) J g lA lR g10 g11) H0 hf (by rw [← hH0, plus_size, hs]; rfl) (by rw [← hH0, plus_N, hN]; show h.size ≤ h.size + 11; omega) hi0
  have hi := w.inv
  obtain ⟨⟨z0, zl, za, zq⟩, z1, z2⟩ := hi
  have eH : (⟨h'.lo, h'.N, own⟩ : Heap) = ⟨H0.lo, H0.N, own⟩ := by rw [← hH0]; rfl
  rw [← hH0] at hc
  have r := Runs.range (tbl := tbl) (I := J) (f := .s [false, false, false, false, false]) (s := s) (h := h') (g := 70) h31 (by decide) (by rw [hs]; exact hc) (by rw [eH, hs]; exact zl) (by simp)
  rw [eH, hs] at r
  refine ⟨_, _, r, hF, ?_⟩
  have zt := w.f.fk
  have zs' := get_lt zl (by simp)
  have up : ∀ b, b ≠ h.size + 10 → ((⟨H0.lo, H0.N, own⟩ : Heap).upd (h.size + 10) (.loop .exhausted none s [[true, false, false, false, false], [false, true, false, false, false]] (.seq c34_o8 c34_o9) c34_r0)).get b = Heap.get ⟨H0.lo, H0.N, own⟩ b := fun b hb => upd_ne _ _ _ _ (by omega) (by omega)
  exact ⟨z0, by rw [up _ (by omega)]; exact za, by rw [up _ (by omega)]; exact zq, by rw [up _ (by omega)]; exact z1, by rw [up _ (by omega)]; exact z2, by rw [up _ (by omega)]; exact zt⟩

theorem c34_end (J : CallF) (K : Kn J) (g : H4 lot bad n) {S a q : Nat} (ha : a ≤ 1000000000000000) (hq : q ≤ 1000000000000000) : Tr tbl J (.seq c34_o10 .ret) (fun s h => F34 S lot bad s h ∧ Z34 S a q h) .ret (fun s h => ∃ vs, evRess h s c34.results = some vs ∧ one vs = .tup [fr a (ofZ lot bad), fr q (ofZ lot bad), G 0]) := fun s X hp => by
  obtain ⟨⟨g0, g1, g6, g7, g9, g10, g11⟩, ⟨n0, fa, fq, f1, f2, ft⟩⟩ := hp
  have l2 := g.l2
  have b1 := g.b1
  have b2 := g.b2
  have k58 := K.k58 X (S + 3) lot bad ft l2
  have q1 := ofZ_36 (lot := lot) (bad := bad) l2
  have q2 := ofZ_pos (n := lot) (k := bad) b1 b2
  have k1 := K.k56 X (a : Int) (ofZ lot bad) (by omega) (by omega) (by omega) (by omega)
  have k2 := K.k56 X (q : Int) (ofZ lot bad) (by omega) (by omega) (by omega) (by omega)
  obtain ⟨u1, v1, e1⟩ : ∃ u v, fr (a : Int) (ofZ lot bad) = .agg [G u, G v] := ⟨_, _, rfl⟩
  obtain ⟨u2, v2, e2⟩ : ∃ u v, fr (q : Int) (ofZ lot bad) = .agg [G u, G v] := ⟨_, _, rfl⟩
  rw [e1] at k1
  rw [e2] at k2
  rw [e1, e2]
  have p1 : Eff.app (.put (S + 1) 2 0 [G u1, G v1]) X = some (X.upd (S + 1) (.cells 0 2 [G u1, G v1])) := put_gen _ _ _ _ _ _ _ (by omega) f1 (by simp)
  have f2' : (X.upd (S + 1) (.cells 0 2 [G u1, G v1])).get (S + 2) = .cells 0 2 [G 0, G 0] := by rw [upd_ne _ _ _ _ (by omega) (by omega)]; exact f2
  have p2 : Eff.app (.put (S + 2) 2 0 [G u2, G v2]) (X.upd (S + 1) (.cells 0 2 [G u1, G v1])) = some ((X.upd (S + 1) (.cells 0 2 [G u1, G v1])).upd (S + 2) (.cells 0 2 [G u2, G v2])) := put_gen _ _ _ _ _ _ _ (by rw [upd_N]; omega) f2' (by simp)
  have t : Tr tbl J ((.seq c34_o10 .ret)) (fun s h => s.get [] = G lot ∧ s.get [false] = G bad ∧ s.get [true, true] = .ptr (S + 1) 0 2 ∧ s.get [false, false, false] = .ptr (S + 2) 0 2 ∧ s.get [false, true, false] = .ptr (S + 3) 0 1369 ∧ s.get [true, true, false] = .ptr (S + 4) 0 1 ∧ s.get [false, false, true] = .ptr (S + 5) 0 1 ∧ h = X) .ret (fun s h => s.get [true, true] = .ptr (S + 1) 0 2 ∧ s.get [false, false, false] = .ptr (S + 2) 0 2 ∧ s.get [true, false, false] = G 0 ∧ h = (X.upd (S + 1) (.cells 0 2 [G u1, G v1])).upd (S + 2) (.cells 0 2 [G u2, G v2])) := Tr.region fun s h hp => by
    obtain ⟨g0, g1, g2, g3, g4, g5, g6, rfl⟩ := hp
    simp (disch := first | omega | exact getEq rfl | exact getO0 | exact Nat.le_of_ble_eq_true rfl) [-evDraw_c, c34_o10, came_some, goI, List.getElem?_cons_zero, List.getElem?_cons_succ, kn, keep, app_growP, app_noneP, plus_N, plus_at0, put_plus0, upd_N, upd_size, putAt, AV.cells, fillA, loadA, takeA, mk, Eff.isAll, Eff.isNone, Eff.commutes, Eff.spares, okPair, apart, eqAgg, fits, LK.fits, allEq, aveq, eqk, mmA, beqT, wrapI, idxI, tdivI, tmodI, decT, decF, ibT, ibF, inT, inF, evScope_c, if_pos, if_neg, g0, g1, g2, g3, g4, g5, g6, evDraw_0, k58, k1, k2, fa, fq, p1, p2]
  obtain ⟨s', h', r, x6, x7, x8, rfl⟩ := t s X ⟨g0, g1, g6, g7, g9, g10, g11, rfl⟩
  have s1 := get_lt f1 (by simp)
  have s2 := get_lt f2' (by simp)
  have y2 : ((X.upd (S + 1) (.cells 0 2 [G u1, G v1])).upd (S + 2) (.cells 0 2 [G u2, G v2])).get (S + 2) = .cells 0 2 [G u2, G v2] := upd_same _ _ _ (by rw [upd_N]; omega) s2
  have y1 : ((X.upd (S + 1) (.cells 0 2 [G u1, G v1])).upd (S + 2) (.cells 0 2 [G u2, G v2])).get (S + 1) = .cells 0 2 [G u1, G v1] := by rw [upd_ne _ _ _ _ (by rw [upd_N]; omega) (by omega)]; exact upd_same _ _ _ (by omega) s1
  refine ⟨s', _, r, [.agg [G u1, G v1], .agg [G u2, G v2], G 0], ?_, rfl⟩
  simp [c34, evRess, evRes, loadA, x6, x7, x8, y1, y2, takeA]

abbrev K62 (J : CallF) : Prop := ∀ (h : Heap) (lot : Int) (x y : AV) (A R : List Int), listOf h x = some A → listOf h y = some R → lot ≤ 36 → J 62 [G lot, .agg [x, y]] h = some (.bool (@decide (crsOk lot A R) (Classical.propDecidable _)), [], false)
abbrev K63 (J : CallF) : Prop := ∀ (h : Heap) (tb : Nat) (lot bad : Int) (x y : AV), J 63 [.ptr tb 0 1369, G lot, G bad, .agg [x, y]] h = some (.func 70 [.ptr (h.size + 3) 0 2, .ptr h.size 0 1, .ptr (h.size + 1) 0 1, .ptr (h.size + 2) 0 1], [.cells 0 1 [.ptr tb 0 1369], .cells 0 1 [G lot], .cells 0 1 [G bad], .cells 0 2 [x, y]], false)
theorem listOf_lo {h : Heap} {x : AV} {l : List Int} (hx : listOf h x = some l) (own : List AObj) : listOf ⟨h.get, h.size, own⟩ x = some l := by
  rcases listOf_some hx with ⟨rfl, rfl⟩ | ⟨b, v, rfl, g⟩
  · rfl
  · exact listOf_cells (by rw [get_mk_lt _ _ _ _ (get_lt g (by simp))]; exact g) rfl

abbrev B34 (x y : AV) : List AObj := [.cells 0 2 [x, y], .cells 0 2 [G 0, G 0], .cells 0 2 [G 0, G 0]]
theorem c34_0 (J : CallF) (h : Heap) (x y : AV) : Tr tbl J c34_o0 (fun s h' => s = T.set (T.set (T.set .leaf [] (G lot)) [false] (G bad)) [true] (.agg [x, y]) ∧ h' = frameOf h) .normal (fun s h' => s.get [] = G lot ∧ s.get [false] = G bad ∧ s.get [false, true] = .ptr h.size 0 2 ∧ s.get [true, true] = .ptr (h.size + 1) 0 2 ∧ s.get [false, false, false] = .ptr (h.size + 2) 0 2 ∧ s.get [true, false, false] = G 0 ∧ h' = ⟨h.get, h.size, B34 x y⟩) := by
  have t : Tr tbl J (c34_o0) (fun s h' => s = T.set (T.set (T.set .leaf [] (G lot)) [false] (G bad)) [true] (.agg [x, y]) ∧ h' = frameOf h) .normal (fun s h' => s.get [] = G lot ∧ s.get [false] = G bad ∧ s.get [false, true] = .ptr h.size 0 2 ∧ s.get [true, true] = .ptr (h.size + 1) 0 2 ∧ s.get [false, false, false] = .ptr (h.size + 2) 0 2 ∧ s.get [true, false, false] = G 0 ∧ h' = ⟨h.get, h.size, B34 x y⟩) := Tr.region fun s h hp => by
    obtain ⟨rfl, rfl⟩ := hp
    simp (disch := first | omega | exact getEq rfl | exact getO0 | exact Nat.le_of_ble_eq_true rfl) [c34_o0, frameOf, came_some, goI, List.getElem?_cons_zero, List.getElem?_cons_succ, kn, keep, frameOf, size_mk, get_mk_lt, get_mk_ge, Eff.app, Heap.setOwn, putAt, AV.cells, fillA, loadA, takeA, mk, Eff.isAll, Eff.isNone, Eff.commutes, Eff.spares, okPair, apart, eqAgg, fits, LK.fits, allEq, aveq, eqk, mmA, beqT, wrapI, idxI, tdivI, tmodI, decT, decF, ibT, ibF, inT, inF, evScope_c, if_pos, if_neg]
  exact t
theorem c34_no (J : CallF) (K : Kn J) (k62 : K62 J) (h : Heap) (x y : AV) {A R : List Int} (hx : listOf h x = some A) (hy : listOf h y = some R) (hh : ¬ (lotOk lot bad ∧ crsOk lot A R)) :
    Tr tbl J (.seq c34_o1 (.cond (.s [false, false, false, true]) (.seq c34_o2 .ret) .skip)) (fun s h' => s.get [] = G lot ∧ s.get [false] = G bad ∧ s.get [false, true] = .ptr h.size 0 2 ∧ s.get [true, true] = .ptr (h.size + 1) 0 2 ∧ s.get [false, false, false] = .ptr (h.size + 2) 0 2 ∧ s.get [true, false, false] = G 0 ∧ h' = ⟨h.get, h.size, B34 x y⟩) .ret (fun s h' => s.get [true, true] = .ptr (h.size + 1) 0 2 ∧ s.get [false, false, false] = .ptr (h.size + 2) 0 2 ∧ s.get [true, false, false] = G 2 ∧ h' = ⟨h.get, h.size, B34 x y⟩) := by
  by_cases h1 : lotOk lot bad
  · have h36 : lot ≤ 36 := by unfold lotOk at h1; omega
    have hk := k62 ⟨h.get, h.size, B34 x y⟩ lot x y A R (listOf_lo hx _) (listOf_lo hy _) h36
    rw [@decide_eq_false _ (Classical.propDecidable _) (fun q => hh ⟨h1, q⟩)] at hk
    have t : Tr tbl J ((.seq c34_o1 (.cond (.s [false, false, false, true]) (.seq c34_o2 .ret) .skip))) (fun s h' => s.get [] = G lot ∧ s.get [false] = G bad ∧ s.get [false, true] = .ptr h.size 0 2 ∧ s.get [true, true] = .ptr (h.size + 1) 0 2 ∧ s.get [false, false, false] = .ptr (h.size + 2) 0 2 ∧ s.get [true, false, false] = G 0 ∧ h' = ⟨h.get, h.size, B34 x y⟩) .ret (fun s h' => s.get [true, true] = .ptr (h.size + 1) 0 2 ∧ s.get [false, false, false] = .ptr (h.size + 2) 0 2 ∧ s.get [true, false, false] = G 2 ∧ h' = ⟨h.get, h.size, B34 x y⟩) := Tr.region fun s h hp => by
      obtain ⟨g0, g1, g2, g3, g4, g5, rfl⟩ := hp
      simp (disch := first | omega | exact getEq rfl | exact getO0 | exact Nat.le_of_ble_eq_true rfl) [c34_o1, c34_o2, came_some, goI, List.getElem?_cons_zero, List.getElem?_cons_succ, kn, keep, frameOf, size_mk, get_mk_lt, get_mk_ge, Eff.app, Heap.setOwn, putAt, AV.cells, fillA, loadA, takeA, mk, Eff.isAll, Eff.isNone, Eff.commutes, Eff.spares, okPair, apart, eqAgg, fits, LK.fits, allEq, aveq, eqk, mmA, beqT, wrapI, idxI, tdivI, tmodI, decT, decF, ibT, ibF, inT, inF, evScope_c, if_pos, if_neg, g0, g1, g2, g3, g4, g5, K.k52, h1, hk]
    exact t
  · clear hx hy
    have t : Tr tbl J ((.seq c34_o1 (.cond (.s [false, false, false, true]) (.seq c34_o2 .ret) .skip))) (fun s h' => s.get [] = G lot ∧ s.get [false] = G bad ∧ s.get [false, true] = .ptr h.size 0 2 ∧ s.get [true, true] = .ptr (h.size + 1) 0 2 ∧ s.get [false, false, false] = .ptr (h.size + 2) 0 2 ∧ s.get [true, false, false] = G 0 ∧ h' = ⟨h.get, h.size, B34 x y⟩) .ret (fun s h' => s.get [true, true] = .ptr (h.size + 1) 0 2 ∧ s.get [false, false, false] = .ptr (h.size + 2) 0 2 ∧ s.get [true, false, false] = G 2 ∧ h' = ⟨h.get, h.size, B34 x y⟩) := Tr.region fun s h hp => by
      obtain ⟨g0, g1, g2, g3, g4, g5, rfl⟩ := hp
      simp (disch := first | omega | exact getEq rfl | exact getO0 | exact Nat.le_of_ble_eq_true rfl) [c34_o1, c34_o2, came_some, goI, List.getElem?_cons_zero, List.getElem?_cons_succ, kn, keep, frameOf, size_mk, get_mk_lt, get_mk_ge, Eff.app, Heap.setOwn, putAt, AV.cells, fillA, loadA, takeA, mk, Eff.isAll, Eff.isNone, Eff.commutes, Eff.spares, okPair, apart, eqAgg, fits, LK.fits, allEq, aveq, eqk, mmA, beqT, wrapI, idxI, tdivI, tmodI, decT, decF, ibT, ibF, inT, inF, evScope_c, if_pos, if_neg, g0, g1, g2, g3, g4, g5, K.k52, h1]
    exact t
theorem c34_bad (J : CallF) (K : Kn J) (k62 : K62 J) (hJ : ∀ a h, J 34 a h = none) (h : Heap) (x y : AV) {A R : List Int} (hx : listOf h x = some A) (hy : listOf h y = some R) (hh : ¬ (lotOk lot bad ∧ crsOk lot A R)) :
    CallsTo tbl J 34 [G lot, G bad, .agg [x, y]] h (.tup [.agg [G 0, G 0], .agg [G 0, G 0], G 2], [], false) := by
  refine Tr.fnv (cf := c34) (e := .ret) (s := T.set (T.set (T.set .leaf [] (G lot)) [false] (G bad)) [true] (.agg [x, y])) (by decide) rfl (hJ _ _) rfl rfl rfl (by simp) ?_
  refine Tr.post (fun s h' q => ?_) (Tr.seq (c34_0 J h x y) (Tr.seq_out (c34_no J K k62 h x y hx hy hh) (by simp)))
  obtain ⟨x6, x7, x8, rfl⟩ := q
  simp [c34, evRess, evRes, loadA, x6, x7, x8, takeA, get_mk_ge, one]

theorem c34_good (J : CallF) (K : Kn J) (k62 : K62 J) (k63 : K63 J) (h70 : ∀ a h, J 70 a h = none) (hJ : ∀ a h, J 34 a h = none) (h : Heap) {A R : List Int} (gA : h.get bA = .cells 1 vA (A.map fun n => .int .i64 n)) (gR : h.get bR = .cells 1 vR (R.map fun n => .int .i64 n)) (hn : A.length = n) (hl : lotOk lot bad) (hc : crsOk lot A R) :
    CallsTo tbl J 34 [G lot, G bad, .agg [.slice bA 0 n vA, .slice bR 0 n vR]] h (.tup [fr (yT lot bad (A.getD · 0) (R.getD · 0) n) (ofZ lot bad), fr (pT lot bad (A.getD · 0) (R.getD · 0) n) (ofZ lot bad), G 0], [], false) := by
  have hR : R.length = n := by rw [hc.2.1, hn]
  have g : H4 lot bad n := by
    have h1 := hc.1
    unfold lotOk at hl
    exact ⟨by omega, by omega, by omega, by omega, by omega⟩
  have lA := get_lt gA (by simp)
  have lR := get_lt gR (by simp)
  have hca : ∀ i, i < n → (A.map fun n => AV.int .i64 n)[i]? = some (G (A.getD i 0)) := fun i hi => by
    rw [List.getElem?_map, List.getElem?_eq_getElem (by omega), List.getD_eq_getElem?_getD, List.getElem?_eq_getElem (by omega)]; rfl
  have hcr : ∀ i, i < n → (R.map fun n => AV.int .i64 n)[i]? = some (G (R.getD i 0)) := fun i hi => by
    rw [List.getElem?_map, List.getElem?_eq_getElem (by omega), List.getD_eq_getElem?_getD, List.getElem?_eq_getElem (by omega)]; rfl
  have k1 := yT_le (lot := lot) (bad := bad) (A := (A.getD · 0)) (R := (R.getD · 0)) g.b1 g.b2 n g.n2
  have k2 := pT_le (lot := lot) (bad := bad) (A := (A.getD · 0)) (R := (R.getD · 0)) g.b1 g.b2 g.l2 n g.n2
  have k3 := ofZ_36 (lot := lot) (bad := bad) g.l2
  have n36 : n ≤ 36 := by have := g.n2; have := g.l2; omega
  have k4 := Nat.mul_le_mul n36 k3
  have k5 := Nat.mul_le_mul n36 (Nat.mul_le_mul_left 36 k3)
  have hk := k62 ⟨h.get, h.size, B34 (.slice bA 0 n vA) (.slice bR 0 n vR)⟩ lot (.slice bA 0 n vA) (.slice bR 0 n vR) A R (listOf_lo (listOf_cells gA hn) _) (listOf_lo (listOf_cells gR hR) _) g.l2
  rw [@decide_eq_true _ (Classical.propDecidable _) hc] at hk
  refine Tr.fnv (cf := c34) (e := .ret) (s := T.set (T.set (T.set .leaf [] (G lot)) [false] (G bad)) [true] (.agg [.slice bA 0 n vA, .slice bR 0 n vR])) (by decide) rfl (hJ _ _) rfl rfl rfl (by simp) ?_
  have t1 : Tr tbl J ((.seq c34_o1 (.cond (.s [false, false, false, true]) (.seq c34_o2 .ret) .skip))) (fun s h' => s.get [] = G lot ∧ s.get [false] = G bad ∧ s.get [false, true] = .ptr h.size 0 2 ∧ s.get [true, true] = .ptr (h.size + 1) 0 2 ∧ s.get [false, false, false] = .ptr (h.size + 2) 0 2 ∧ s.get [true, false, false] = G 0 ∧ h' = ⟨h.get, h.size, B34 (.slice bA 0 n vA) (.slice bR 0 n vR)⟩) .normal (fun s h' => s.get [] = G lot ∧ s.get [false] = G bad ∧ s.get [false, true] = .ptr h.size 0 2 ∧ s.get [true, true] = .ptr (h.size + 1) 0 2 ∧ s.get [false, false, false] = .ptr (h.size + 2) 0 2 ∧ h' = ⟨h.get, h.size, B34 (.slice bA 0 n vA) (.slice bR 0 n vR)⟩) := Tr.region fun s h hp => by
    obtain ⟨g0, g1, g2, g3, g4, g5, rfl⟩ := hp
    simp (disch := first | omega | exact getEq rfl | exact getO0 | exact Nat.le_of_ble_eq_true rfl) [c34_o1, came_some, goI, List.getElem?_cons_zero, List.getElem?_cons_succ, kn, keep, frameOf, size_mk, get_mk_lt, get_mk_ge, Eff.app, Heap.setOwn, putAt, AV.cells, fillA, loadA, takeA, mk, Eff.isAll, Eff.isNone, Eff.commutes, Eff.spares, okPair, apart, eqAgg, fits, LK.fits, allEq, aveq, eqk, mmA, beqT, wrapI, idxI, tdivI, tmodI, decT, decF, ibT, ibF, inT, inF, evScope_c, if_pos, if_neg, g0, g1, g2, g3, g4, g5, K.k52, hl, hk]
  have t2 : Tr tbl J ((.seq c34_o3 c34_o4)) (fun s h' => s.get [] = G lot ∧ s.get [false] = G bad ∧ s.get [false, true] = .ptr h.size 0 2 ∧ s.get [true, true] = .ptr (h.size + 1) 0 2 ∧ s.get [false, false, false] = .ptr (h.size + 2) 0 2 ∧ h' = ⟨h.get, h.size, B34 (.slice bA 0 n vA) (.slice bR 0 n vR)⟩) .normal (fun s h' => s.get [] = G lot ∧ s.get [false] = G bad ∧ s.get [false, true] = .ptr h.size 0 2 ∧ s.get [true, true] = .ptr (h.size + 1) 0 2 ∧ s.get [false, false, false] = .ptr (h.size + 2) 0 2 ∧ s.get [false, true, false] = .ptr (h.size + 3) 0 1369 ∧ s.get [true, true, false] = .ptr (h.size + 4) 0 1 ∧ s.get [false, false, true] = .ptr (h.size + 5) 0 1 ∧ h' = ⟨h.get, h.size, B34 (.slice bA 0 n vA) (.slice bR 0 n vR) ++ [.cells 0 1369 (tri 37 0), .cells 0 1 [G 0], .cells 0 1 [G 0]]⟩) := Tr.region fun s h hp => by
    obtain ⟨g0, g1, g2, g3, g4, rfl⟩ := hp
    simp (disch := first | omega | exact getEq rfl | exact getO0 | exact Nat.le_of_ble_eq_true rfl) [c34_o3, c34_o4, came_some, goI, List.getElem?_cons_zero, List.getElem?_cons_succ, kn, keep, frameOf, size_mk, get_mk_lt, get_mk_ge, Eff.app, Heap.setOwn, putAt, AV.cells, fillA, loadA, takeA, mk, Eff.isAll, Eff.isNone, Eff.commutes, Eff.spares, okPair, apart, eqAgg, fits, LK.fits, allEq, aveq, eqk, mmA, beqT, wrapI, idxI, tdivI, tmodI, decT, decF, ibT, ibF, inT, inF, evScope_c, if_pos, if_neg, g0, g1, g2, g3, g4, K.k54]
  have t3 : Tr tbl J (c34_o5) (fun s h' => s.get [] = G lot ∧ s.get [false] = G bad ∧ s.get [false, true] = .ptr h.size 0 2 ∧ s.get [true, true] = .ptr (h.size + 1) 0 2 ∧ s.get [false, false, false] = .ptr (h.size + 2) 0 2 ∧ s.get [false, true, false] = .ptr (h.size + 3) 0 1369 ∧ s.get [true, true, false] = .ptr (h.size + 4) 0 1 ∧ s.get [false, false, true] = .ptr (h.size + 5) 0 1 ∧ h' = ⟨h.get, h.size, B34 (.slice bA 0 n vA) (.slice bR 0 n vR) ++ [.cells 0 1369 (tri 37 0), .cells 0 1 [G 0], .cells 0 1 [G 0]]⟩) .normal (fun s h' => s.get [] = G lot ∧ s.get [false] = G bad ∧ s.get [true, true] = .ptr (h.size + 1) 0 2 ∧ s.get [false, false, false] = .ptr (h.size + 2) 0 2 ∧ s.get [false, true, false] = .ptr (h.size + 3) 0 1369 ∧ s.get [true, true, false] = .ptr (h.size + 4) 0 1 ∧ s.get [false, false, true] = .ptr (h.size + 5) 0 1 ∧ s.get [false, false, false, false, false] = .func 70 [.ptr (h.size + 9) 0 2, .ptr (h.size + 6) 0 1, .ptr (h.size + 7) 0 1, .ptr (h.size + 8) 0 1] ∧ h' = H34 h (.slice bA 0 n vA) (.slice bR 0 n vR) lot bad) := Tr.region fun s h hp => by
    obtain ⟨g0, g1, g2, g3, g4, g5, g6, g7, rfl⟩ := hp
    simp (disch := first | omega | exact getEq rfl | exact getO0 | exact Nat.le_of_ble_eq_true rfl) [c34_o5, came_some, goI, List.getElem?_cons_zero, List.getElem?_cons_succ, kn, keep, frameOf, size_mk, get_mk_lt, get_mk_ge, Eff.app, Heap.setOwn, putAt, AV.cells, fillA, loadA, takeA, mk, Eff.isAll, Eff.isNone, Eff.commutes, Eff.spares, okPair, apart, eqAgg, fits, LK.fits, allEq, aveq, eqk, mmA, beqT, wrapI, idxI, tdivI, tmodI, decT, decF, ibT, ibF, inT, inF, evScope_c, if_pos, if_neg, g0, g1, g2, g3, g4, g5, g6, g7, k63]
  have t3' := Tr.post (Q' := fun s h' => F34 h.size lot bad s h' ∧ s.get [false, false, false, false, false] = .func 70 [.ptr (h.size + 9) 0 2, .ptr (h.size + 6) 0 1, .ptr (h.size + 7) 0 1, .ptr (h.size + 8) 0 1] ∧ h' = H34 h (.slice bA 0 n vA) (.slice bR 0 n vR) lot bad) (fun s h' q => by
    obtain ⟨q0, q1, q2, q3, q4, q5, q6, q7, q8⟩ := q
    exact ⟨⟨q0, q1, q2, q3, q4, q5, q6⟩, q7, q8⟩) t3
  have tr := c34_range (A := (A.getD · 0)) (R := (R.getD · 0)) J K h70 g h gA gR hca hcr
  have te := c34_end J K g (S := h.size) (a := yT lot bad (A.getD · 0) (R.getD · 0) n) (q := pT lot bad (A.getD · 0) (R.getD · 0) n) (by omega) (by omega)
  exact Tr.seq (c34_0 J h _ _) (Tr.seq t1 (Tr.app2 t2 (Tr.seq (Tr.seq t3' (Tr.block_out tr (by simp))) te)))
end

end Go.Proofs.Ytlkgpcfhpeilhaa.Ev
