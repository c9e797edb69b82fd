/-
  SampleSingles answers true at any integers, as the evaluator runs it. No condition but that the lot is an int.
-/
import Derived.Test.YtlkgpcfhpeilhaaSRef2
set_option linter.unusedVariables false
set_option linter.unusedSimpArgs false
namespace Go.Proofs.Ytlkgpcfhpeilhaa.Ev
open Go Go.AEv

attribute [local simp] evFunc initS evOps_c evTrim_c evSkip_c evExit_c evRet_c evSeq_c evCond_c evBlock_c evDraw_c runOps_n runOps_c exec_n exec_g pure1_c act AOpd.ev T.get T.set T.put evBin evUn forceT_eq forceV_eq forceL_eq evRess evRes one keep runFP_n runFP_c app_none AV.flats AV.flat

theorem singles_bad (lot bad n c : Int) (hlt : lot < 9223372036854775808) (h1 : ¬ lotOk lot bad) : ∃ h', evFunc (kn I17) c6 [G lot, G bad, .agg [G n, G c]] (frameOf e0) = some (.bool true, h') := by
  have q23 := fun h => n23 h lot bad n c hlt
  have q28 := fun h => n28 h lot bad
  have q18 := fun h => n18 h lot bad
  have q20 := n20
  simp [c6, c6_o0, c6_o1, c6_o2, c6_o3, c6_o4, c6_o5, kn, q18, q20, q23, q28, h1, mk, frameOf, Heap.size, e0, Eff.app, Heap.setOwn, Heap.get, putAt, fillA, AV.cells, loadA, takeA, Eff.isAll, okPair, Eff.commutes, Eff.isNone, Eff.spares, idx, eqAgg, fits, LK.fits, allEq, aveq]


theorem singles_mid (lot bad n c : Int) (h1 : lotOk lot bad) (h2 : ¬ planOk lot n c) : ∃ h', evFunc (kn I17) c6 [G lot, G bad, .agg [G n, G c]] (frameOf e0) = some (.bool true, h') := by
  have hl : lot ≤ 36 := h1.1.2
  have q23 := fun h => n23 h lot bad n c (by omega)
  have q28 := fun h => n28 h lot bad
  have q29 := fun h => n29 h lot bad hl
  have q18 := fun h => n18 h lot bad
  have q30 := fun h => n30 h lot n c
  have q20 := n20
  simp [c6, c6_o0, c6_o1, c6_o2, c6_o3, c6_o4, c6_o5, c6_o6, c6_o7, c6_o9, c6_o10, kn, q18, q20, q23, q28, q29, q30, h1, h2, mk, frameOf, Heap.size, e0, Eff.app, Heap.setOwn, Heap.get, putAt, fillA, AV.cells, loadA, takeA, Eff.isAll, okPair, Eff.commutes, Eff.isNone, Eff.spares, idx, eqAgg, fits, LK.fits, allEq, aveq]

section
variable {s : T} {lot bad n c x y w : Int} (lo : Nat → AObj)
theorem p6_0 (g0 : s.get [] = G lot) (g1 : s.get [false] = G bad) (ga : s.get [true] = .agg [G n, G c]) :
    ∃ s1, evCode (kn I17) c6_o0 s ⟨lo, 0, []⟩ = some (.normal, s1, ⟨lo, 0, [.cells 0 2 [G n, G c]]⟩) ∧ s1.get [] = G lot ∧ s1.get [false] = G bad ∧ s1.get [false, true] = .ptr 0 0 2 := by
  simp [c6_o0, g0, g1, ga, kn, mk, Heap.size, Eff.app, Heap.setOwn, Heap.get, putAt, fillA, AV.cells, loadA, takeA, Eff.isAll, okPair, Eff.commutes, Eff.isNone, Eff.spares, idx]
theorem p6_1 (g0 : s.get [] = G lot) (g1 : s.get [false] = G bad) (ga : s.get [false, true] = .ptr 0 0 2) :
    ∃ s1, evCode (kn I17) c6_o1 s ⟨lo, 0, [.cells 0 2 [G n, G c]]⟩ = some (.normal, s1, ⟨lo, 0, [.cells 0 2 [G n, G c]]⟩) ∧ s1.get [] = G lot ∧ s1.get [false] = G bad ∧ s1.get [false, false, false] = G n ∧ s1.get [true, false, false] = G c := by
  simp [c6_o1, g0, g1, ga, kn, mk, Heap.size, Eff.app, Heap.setOwn, Heap.get, putAt, fillA, AV.cells, loadA, takeA, Eff.isAll, okPair, Eff.commutes, Eff.isNone, Eff.spares, idx]
theorem p6_2 (g0 : s.get [] = G lot) (g1 : s.get [false] = G bad) (g2 : s.get [false, false, false] = G n) (g3 : s.get [true, false, false] = G c) (q28 : ∀ h, I17 28 [G lot, G bad] h = some (.tup [G w, G 0], [], false)) :
    ∃ s1, evCode (kn I17) c6_o2 s ⟨lo, 0, [.cells 0 2 [G n, G c]]⟩ = some (.normal, s1, ⟨lo, 0, [.cells 0 2 [G n, G c]]⟩) ∧ s1.get [] = G lot ∧ s1.get [false] = G bad ∧ s1.get [false, false, false] = G n ∧ s1.get [true, false, false] = G c ∧ s1.get [false, true, false] = G w ∧ s1.get [true, true, false] = G 0 := by
  simp [c6_o2, g0, g1, g2, g3, q28, kn, mk, Heap.size, Eff.app, Heap.setOwn, Heap.get, putAt, fillA, AV.cells, loadA, takeA, Eff.isAll, okPair, Eff.commutes, Eff.isNone, Eff.spares, idx]
theorem p6_3 (g0 : s.get [] = G lot) (g1 : s.get [false] = G bad) (g2 : s.get [false, false, false] = G n) (g3 : s.get [true, false, false] = G c) (g4 : s.get [false, true, false] = G w) (g5 : s.get [true, true, false] = G 0) (q23 : ∀ h, I17 23 [G lot, G bad, G n, G c] h = some (.tup [.agg [G x, G y], G 0], [], false)) :
    ∃ s1, evCode (kn I17) c6_o3 s ⟨lo, 0, [.cells 0 2 [G n, G c]]⟩ = some (.normal, s1, ⟨lo, 0, [.cells 0 2 [G n, G c], .cells 0 2 [G x, G y]]⟩) ∧ s1.get [] = G lot ∧ s1.get [false] = G bad ∧ s1.get [false, false, false] = G n ∧ s1.get [true, false, false] = G c ∧ s1.get [false, true, false] = G w ∧ s1.get [true, true, false] = G 0 ∧ s1.get [false, false, true] = .ptr 1 0 2 ∧ s1.get [true, false, true] = G 0 := by
  simp [c6_o3, g0, g1, g2, g3, g4, g5, q23, kn, mk, Heap.size, Eff.app, Heap.setOwn, Heap.get, putAt, fillA, AV.cells, loadA, takeA, Eff.isAll, okPair, Eff.commutes, Eff.isNone, Eff.spares, idx]
theorem p6_4 (g0 : s.get [] = G lot) (g1 : s.get [false] = G bad) (g2 : s.get [false, false, false] = G n) (g3 : s.get [true, false, false] = G c) (g4 : s.get [false, true, false] = G w) (g5 : s.get [true, true, false] = G 0) (g6 : s.get [false, false, true] = .ptr 1 0 2) (g7 : s.get [true, false, true] = G 0) (q18 : ∀ h, I17 18 [G lot, G bad] h = some (.bool true, [], false)) :
    ∃ s1, evCode (kn I17) (.seq c6_o4 (.cond (.s [false, false, true, false, false]) (.seq c6_o5 .ret) .skip)) s ⟨lo, 0, [.cells 0 2 [G n, G c], .cells 0 2 [G x, G y]]⟩ = some (.normal, s1, ⟨lo, 0, [.cells 0 2 [G n, G c], .cells 0 2 [G x, G y]]⟩) ∧ s1.get [] = G lot ∧ s1.get [false] = G bad ∧ s1.get [false, false, false] = G n ∧ s1.get [true, false, false] = G c ∧ s1.get [false, true, false] = G w ∧ s1.get [true, true, false] = G 0 ∧ s1.get [false, false, true] = .ptr 1 0 2 ∧ s1.get [true, false, true] = G 0 := by
  simp [c6_o4, g0, g1, g2, g3, g4, g5, g6, g7, q18, kn, mk, Heap.size, Eff.app, Heap.setOwn, Heap.get, putAt, fillA, AV.cells, loadA, takeA, Eff.isAll, okPair, Eff.commutes, Eff.isNone, Eff.spares, idx]
theorem p6_6 (g0 : s.get [] = G lot) (g1 : s.get [false] = G bad) (g2 : s.get [false, false, false] = G n) (g3 : s.get [true, false, false] = G c) (g4 : s.get [false, true, false] = G w) (g5 : s.get [true, true, false] = G 0) (g6 : s.get [false, false, true] = .ptr 1 0 2) (g7 : s.get [true, false, true] = G 0) (q29 : ∀ h, I17 29 [G lot, G bad] h = some (G w, [], false)) :
    ∃ s1, evCode (kn I17) c6_o6 s ⟨lo, 0, [.cells 0 2 [G n, G c], .cells 0 2 [G x, G y]]⟩ = some (.normal, s1, ⟨lo, 0, [.cells 0 2 [G n, G c], .cells 0 2 [G x, G y]]⟩) ∧ s1.get [] = G lot ∧ s1.get [false] = G bad ∧ s1.get [false, false, false] = G n ∧ s1.get [true, false, false] = G c ∧ s1.get [false, true, false] = G w ∧ s1.get [true, true, false] = G 0 ∧ s1.get [false, false, true] = .ptr 1 0 2 ∧ s1.get [true, false, true] = G 0 ∧ s1.get [false, true, true] = G w := by
  simp [c6_o6, g0, g1, g2, g3, g4, g5, g6, g7, q29, kn, mk, Heap.size, Eff.app, Heap.setOwn, Heap.get, putAt, fillA, AV.cells, loadA, takeA, Eff.isAll, okPair, Eff.commutes, Eff.isNone, Eff.spares, idx]
theorem p6_7 (g0 : s.get [] = G lot) (g1 : s.get [false] = G bad) (g2 : s.get [false, false, false] = G n) (g3 : s.get [true, false, false] = G c) (g4 : s.get [false, true, false] = G w) (g5 : s.get [true, true, false] = G 0) (g6 : s.get [false, false, true] = .ptr 1 0 2) (g7 : s.get [true, false, true] = G 0) (g8 : s.get [false, true, true] = G w)  :
    ∃ s1, evCode (kn I17) (.seq c6_o7 (.cond (.s [false, false, false, false, false, false]) (.seq c6_o8 .ret) .skip)) s ⟨lo, 0, [.cells 0 2 [G n, G c], .cells 0 2 [G x, G y]]⟩ = some (.normal, s1, ⟨lo, 0, [.cells 0 2 [G n, G c], .cells 0 2 [G x, G y]]⟩) ∧ s1.get [] = G lot ∧ s1.get [false] = G bad ∧ s1.get [false, false, false] = G n ∧ s1.get [true, false, false] = G c ∧ s1.get [false, false, true] = .ptr 1 0 2 ∧ s1.get [true, false, true] = G 0 ∧ s1.get [false, true, true] = G w := by
  simp [c6_o7, g0, g1, g2, g3, g4, g5, g6, g7, g8, kn, mk, Heap.size, Eff.app, Heap.setOwn, Heap.get, putAt, fillA, AV.cells, loadA, takeA, Eff.isAll, okPair, Eff.commutes, Eff.isNone, Eff.spares, idx]
theorem p6_9 (g0 : s.get [] = G lot) (g1 : s.get [false] = G bad) (g2 : s.get [false, false, false] = G n) (g3 : s.get [true, false, false] = G c) (g6 : s.get [false, false, true] = .ptr 1 0 2) (g7 : s.get [true, false, true] = G 0) (g8 : s.get [false, true, true] = G w) (q30 : ∀ h, I17 30 [G lot, G n, G c] h = some (.bool true, [], false)) :
    ∃ s1, evCode (kn I17) (.seq c6_o9 (.cond (.s [true, false, true, false, false, false]) (.seq c6_o10 .ret) .skip)) s ⟨lo, 0, [.cells 0 2 [G n, G c], .cells 0 2 [G x, G y]]⟩ = some (.normal, s1, ⟨lo, 0, [.cells 0 2 [G n, G c], .cells 0 2 [G x, G y]]⟩) ∧ s1.get [] = G lot ∧ s1.get [false] = G bad ∧ s1.get [false, false, false] = G n ∧ s1.get [true, false, false] = G c ∧ s1.get [false, false, true] = .ptr 1 0 2 ∧ s1.get [true, false, true] = G 0 ∧ s1.get [false, true, true] = G w := by
  simp [c6_o9, g0, g1, g2, g3, g6, g7, g8, q30, kn, mk, Heap.size, Eff.app, Heap.setOwn, Heap.get, putAt, fillA, AV.cells, loadA, takeA, Eff.isAll, okPair, Eff.commutes, Eff.isNone, Eff.spares, idx]
end

/-- The last region. -/
theorem p6_11 {s : T} {lot bad n c x y w : Int} (g0 : s.get [] = G lot) (g1 : s.get [false] = G bad) (g2 : s.get [false, false, false] = G n) (g3 : s.get [true, false, false] = G c) (g4 : s.get [false, false, true] = .ptr 1 0 2) (g5 : s.get [true, false, true] = G 0) (g6 : s.get [false, true, true] = G w)
    (a : Int) (q31 : ∀ h, I17 31 [G lot, G bad, G n, G c] h = some (G a, [], false)) (q25 : ∀ h, I17 25 [G a, G w] h = some (.agg [G x, G y], [], false)) (q20 : ∀ h, I17 20 [] h = some (.bool true, [], false)) (lo : Nat → AObj) :
    ∃ s1, evCode (kn I17) c6_o11 s ⟨lo, 0, [.cells 0 2 [G n, G c], .cells 0 2 [G x, G y]]⟩ = some (.normal, s1, ⟨lo, 0, [.cells 0 2 [G n, G c], .cells 0 2 [G x, G y]]⟩) ∧ s1.get [true, true] = .bool true := by
  simp [c6_o11, g0, g1, g2, g3, g4, g5, g6, kn, q31, q25, q20, Heap.get, loadA, takeA, Eff.isAll, okPair, Eff.commutes, Eff.isNone, Eff.spares, eqAgg, fits, LK.fits, allEq, aveq]

theorem singles_good (lot bad n c : Int) (h1 : lotOk lot bad) (h2 : planOk lot n c) : CallsTo tbl I17 6 [G lot, G bad, .agg [G n, G c]] e0 (.bool true, [], false) := by
  have hl : lot ≤ 36 := h1.1.2
  have hp := ofZ_pos h1.2.1 h1.2.2
  have hle := ofZ_le lot bad 36 hl
  have hacc := acc_le lot bad n (by have := h2.1.1; omega) h2.1.2 hl (c.toNat + 1)
  have hacc2 : (c.toNat + 1) * 68719476736 ≤ 37 * 68719476736 := Nat.mul_le_mul_right _ (by have := h2.2.2; have := h2.1.2; omega)
  have q23 := fun h => n23 h lot bad n c (by omega)
  have q28 := fun h => n28 h lot bad
  have q29 := fun h => n29 h lot bad hl
  have q18 := fun h => n18 h lot bad
  have q30 := fun h => n30 h lot n c
  have q31 := fun h => n31 h lot bad n c h1 h2
  have q25 := fun h => n25 h (acc lot bad n (c.toNat + 1)) (ofZ lot bad) (by omega) (by omega) (by omega) (by omega)
  have q20 := n20
  generalize hF : fr (acc lot bad n (c.toNat + 1)) (ofZ lot bad) = F at *
  obtain ⟨x, y, rfl⟩ : ∃ x y, F = .agg [G x, G y] := ⟨_, _, hF.symm⟩
  have q28' : ∀ h, I17 28 [G lot, G bad] h = some (.tup [G (ofZ lot bad), G 0], [], false) := fun h => by rw [q28, if_pos h1]
  have q23' : ∀ h, I17 23 [G lot, G bad, G n, G c] h = some (.tup [.agg [G x, G y], G 0], [], false) := fun h => by rw [q23, if_pos ⟨h1, h2⟩]
  have q18' : ∀ h, I17 18 [G lot, G bad] h = some (.bool true, [], false) := fun h => by rw [q18, decide_eq_true h1]
  have q30' : ∀ h, I17 30 [G lot, G n, G c] h = some (.bool true, [], false) := fun h => by rw [q30, decide_eq_true h2]
  let s0 : T := T.set (T.set (T.set .leaf [] (G lot)) [false] (G bad)) [true] (.agg [G n, G c])
  obtain ⟨t0, e0', a0, a1, a2⟩ := p6_0 (s := s0) (lot := lot) (bad := bad) (n := n) (c := c) e0.get rfl rfl rfl
  obtain ⟨t1, e1, b0, b1, b2, b3⟩ := p6_1 e0.get (n := n) (c := c) a0 a1 a2
  obtain ⟨t2, e2, c0, c1, c2, c3, c4, c5⟩ := p6_2 e0.get b0 b1 b2 b3 q28'
  obtain ⟨t3, e3, d0, d1, d2, d3, d4, d5, d6, d7⟩ := p6_3 e0.get c0 c1 c2 c3 c4 c5 q23'
  obtain ⟨t4, e4, f0, f1, f2, f3, f4, f5, f6, f7⟩ := p6_4 e0.get d0 d1 d2 d3 d4 d5 d6 d7 q18' (x := x) (y := y)
  obtain ⟨t6, e6, k0, k1, k2, k3, k4, k5, k6, k7, k8⟩ := p6_6 e0.get f0 f1 f2 f3 f4 f5 f6 f7 q29 (x := x) (y := y)
  obtain ⟨t7, e7, m0, m1, m2, m3, m6, m7, m8⟩ := p6_7 e0.get k0 k1 k2 k3 k4 k5 k6 k7 k8 (x := x) (y := y)
  obtain ⟨t9, e9, r0, r1, r2, r3, r6, r7, r8⟩ := p6_9 e0.get m0 m1 m2 m3 m6 m7 m8 q30' (x := x) (y := y)
  obtain ⟨t11, e11, z⟩ := p6_11 r0 r1 r2 r3 r6 r7 r8 (acc lot bad n (c.toNat + 1)) q31 q25 q20 e0.get
  exact CallsTo.fn (cf := c6) (s := s0) (e := .ret) (vs := [.bool true]) (by decide) rfl rfl rfl rfl
    (Runs.seq (Runs.chunk e0') (Runs.seq (Runs.chunk e1) (Runs.seq (Runs.chunk e2) (Runs.seq (Runs.chunk e3) (Runs.seq (Runs.chunk e4) (Runs.seq (Runs.chunk e6) (Runs.seq (Runs.chunk e7) (Runs.seq (Runs.chunk e9) (Runs.seq (Runs.chunk e11) (Runs.chunk rfl)))))))))) (by simp) (by simp [c6, z])

theorem singles_ok (lot bad n c : Int) (hlt : lot < 9223372036854775808) : CallsTo tbl I17 6 [G lot, G bad, .agg [G n, G c]] e0 (.bool true, [], false) := by
  by_cases h1 : lotOk lot bad
  · by_cases h2 : planOk lot n c
    · exact singles_good lot bad n c h1 h2
    · obtain ⟨h', e⟩ := singles_mid lot bad n c h1 h2
      exact CallsTo.plain (cf := c6) (by decide) rfl rfl rfl rfl e
  · obtain ⟨h', e⟩ := singles_bad lot bad n c hlt h1
    exact CallsTo.plain (cf := c6) (by decide) rfl rfl rfl rfl e

end Go.Proofs.Ytlkgpcfhpeilhaa.Ev
