/-
  SampleMerged answers true at any ints, as the evaluator runs it. No condition.
-/
import Derived.Test.YtlkgpcfhpeilhaaSTab
import Derived.Test.YtlkgpcfhpeilhaaSMrg
import Derived.Test.YtlkgpcfhpeilhaaSApp
import Derived.Test.YtlkgpcfhpeilhaaSBig
set_option linter.unusedVariables false
set_option linter.unusedSimpArgs false
namespace Go.Proofs.Ytlkgpcfhpeilhaa.Ev
open Go Go.AEv

attribute [local simp] evFunc initS evOps_c evTrim_c evSkip_c evExit_c evRet_c evSeq_c evCond_c evBlock_c evDraw_c runOps_n runOps_c exec_n exec_g pure1_c act AOpd.ev T.get T.set T.put evBin evUn forceT_eq forceV_eq forceL_eq evRess evRes one keep runFP_n runFP_c app_none AV.flats AV.flat

/-! ### What is known -/
def spec46M : SpecV
  | [.int .i64 lot, .int .i64 bad, .agg [.int .i64 n, .int .i64 c, .int .i64 r, .int .i64 m, .int .i64 d]] => if lotOk lot bad ∧ dblOk lot n c r m d then some (.tup [fr (dblA lot bad n c r m d) (ofZ lot bad), fr (dblP lot bad n c r m d) (ofZ lot bad), G 0]) else none
  | _ => none
def spec47M : SpecF := fun args h => match args with
  | [.int .i64 lot, .agg [.int .i64 n, .int .i64 c, .int .i64 r, .int .i64 m, .int .i64 d]] =>
    if lotOk lot 0 ∧ dblOk lot n c r m d then some (.tup [.agg [.slice (h.size + 3) 0 (n + m).toNat (n + m).toNat, .slice (h.size + 5) 0 (n + m).toNat (n + m).toNat], G 0], own47 h.size n c r m d, false) else none
  | _ => none
def q51 (x0 x1 x2 x3 x4 x5 : Int) : Int × Int × Int × Int × Int × Int :=
  let lot := 2 + mdZ x0 35
  let n := 1 + mdZ x1 (lot - 1)
  let m := 1 + mdZ x2 (lot - n)
  let c := mdZ x3 n
  let r := c + 2 + mdZ x4 (n - c)
  (lot, n, c, r, m, r - 1 + mdZ x5 (n + m - r + 1))
def spec51 : SpecV
  | [.agg [.int .i64 x0, .int .i64 x1, .int .i64 x2, .int .i64 x3, .int .i64 x4, .int .i64 x5]] => match q51 x0 x1 x2 x3 x4 x5 with
    | (lot, n, c, r, m, d) => some (.tup [G lot, .agg [G n, G c, G r, G m, G d]])
  | _ => none
theorem c51_ok (J : CallF) (K : Kn J) (hJ : ∀ a h, J 51 a h = none) (x0 x1 x2 x3 x4 x5 lot n c r m d : Int) (e1 : 2 + mdZ x0 35 = lot) (e2 : 1 + mdZ x1 (lot - 1) = n) (e3 : 1 + mdZ x2 (lot - n) = m) (e4 : mdZ x3 n = c) (e5 : c + 2 + mdZ x4 (n - c) = r) (e6 : r - 1 + mdZ x5 (n + m - r + 1) = d)
    (b1 : 2 ≤ lot ∧ lot ≤ 36) (b2 : 1 ≤ n ∧ n < lot) (b3 : 1 ≤ m ∧ m ≤ lot - n) (b4 : 0 ≤ c ∧ c < n) (b5 : c + 2 ≤ r ∧ r ≤ n + 1) (b6 : r - 1 ≤ d ∧ d ≤ n + m - 1) :
    CallsTo tbl J 51 [.agg [G x0, G x1, G x2, G x3, G x4, G x5]] e0 (.tup [G lot, .agg [G n, G c, G r, G m, G d]], [], false) := by
  refine Tr.fnv (cf := c51) (e := .ret) (s := T.set .leaf [] (.agg [G x0, G x1, G x2, G x3, G x4, G x5])) (by decide) rfl (hJ _ _) rfl rfl rfl (by simp) ?_
  obtain ⟨d1, f1⟩ : ∃ z, mdZ x0 35 = z := ⟨_, rfl⟩
  obtain ⟨d2, f2⟩ : ∃ z, mdZ x1 (lot - 1) = z := ⟨_, rfl⟩
  obtain ⟨d3, f3⟩ : ∃ z, mdZ x2 (lot - n) = z := ⟨_, rfl⟩
  obtain ⟨d5, f5⟩ : ∃ z, mdZ x4 (n - c) = z := ⟨_, rfl⟩
  obtain ⟨d6, f6⟩ : ∃ z, mdZ x5 (n + m - r + 1) = z := ⟨_, rfl⟩
  rw [f1] at e1
  rw [f2] at e2
  rw [f3] at e3
  rw [f5] at e5
  rw [f6] at e6
  have t0 : Tr tbl J ((.seq c51_o0 c51_o1)) (fun s h => s = T.set .leaf [] (.agg [G x0, G x1, G x2, G x3, G x4, G x5]) ∧ h = ⟨e0.get, 0, []⟩) .normal (fun s h => s.get [false] = .ptr 0 0 6 ∧ s.get [false, false] = .ptr 1 0 5 ∧ s.get [true, false] = G lot ∧ h = ⟨e0.get, 0, [.cells 0 6 [G x0, G x1, G x2, G x3, G x4, G x5], .cells 0 5 [G 0, G 0, G 0, G 0, G 0]]⟩) := Tr.region fun s h hp => by
    obtain ⟨rfl, rfl⟩ := hp
    simp (disch := first | omega | exact getEq rfl | exact getO0 | exact Nat.le_of_ble_eq_true rfl) [c51_o0, c51_o1, came_some, goI, List.getElem?_cons_zero, List.getElem?_cons_succ, kn, keep, frameOf, Heap.size, Heap.get, Eff.app, Heap.setOwn, putAt, AV.cells, fillA, loadA, takeA, mk, Eff.isAll, Eff.isNone, Eff.commutes, Eff.spares, okPair, apart, eqAgg, fits, LK.fits, allEq, aveq, eqk, mmA, beqT, wrapI, idxI, tdivI, tmodI, decT, decF, ibT, ibF, inT, inF, evScope_c, if_pos, if_neg, K.k24, f1, e1]
  have t2 : Tr tbl J ((.seq c51_o2 c51_o3)) (fun s h => s.get [false] = .ptr 0 0 6 ∧ s.get [false, false] = .ptr 1 0 5 ∧ s.get [true, false] = G lot ∧ h = ⟨e0.get, 0, [.cells 0 6 [G x0, G x1, G x2, G x3, G x4, G x5], .cells 0 5 [G 0, G 0, G 0, G 0, G 0]]⟩) .normal (fun s h => s.get [false] = .ptr 0 0 6 ∧ s.get [false, false] = .ptr 1 0 5 ∧ s.get [true, false] = G lot ∧ s.get [false, true] = G n ∧ s.get [true, true] = G m ∧ h = ⟨e0.get, 0, [.cells 0 6 [G x0, G x1, G x2, G x3, G x4, G x5], .cells 0 5 [G 0, G 0, G 0, G 0, G 0]]⟩) := Tr.region fun s h hp => by
    obtain ⟨g0, g1, g2, rfl⟩ := hp
    simp (disch := first | omega | exact getEq rfl | exact getO0 | exact Nat.le_of_ble_eq_true rfl) [c51_o2, c51_o3, came_some, goI, List.getElem?_cons_zero, List.getElem?_cons_succ, kn, keep, frameOf, Heap.size, Heap.get, Eff.app, Heap.setOwn, putAt, AV.cells, fillA, loadA, takeA, mk, Eff.isAll, Eff.isNone, Eff.commutes, Eff.spares, okPair, apart, eqAgg, fits, LK.fits, allEq, aveq, eqk, mmA, beqT, wrapI, idxI, tdivI, tmodI, decT, decF, ibT, ibF, inT, inF, evScope_c, if_pos, if_neg, g0, g1, g2, K.k24, f2, e2, f3, e3]
  have t4 : Tr tbl J ((.seq c51_o4 c51_o5)) (fun s h => s.get [false] = .ptr 0 0 6 ∧ s.get [false, false] = .ptr 1 0 5 ∧ s.get [true, false] = G lot ∧ s.get [false, true] = G n ∧ s.get [true, true] = G m ∧ h = ⟨e0.get, 0, [.cells 0 6 [G x0, G x1, G x2, G x3, G x4, G x5], .cells 0 5 [G 0, G 0, G 0, G 0, G 0]]⟩) .normal (fun s h => s.get [false] = .ptr 0 0 6 ∧ s.get [false, false] = .ptr 1 0 5 ∧ s.get [true, false] = G lot ∧ s.get [false, true] = G n ∧ s.get [true, true] = G m ∧ s.get [false, false, false] = G c ∧ s.get [true, false, false] = G r ∧ h = ⟨e0.get, 0, [.cells 0 6 [G x0, G x1, G x2, G x3, G x4, G x5], .cells 0 5 [G 0, G 0, G 0, G 0, G 0]]⟩) := Tr.region fun s h hp => by
    obtain ⟨g0, g1, g2, g3, g4, rfl⟩ := hp
    simp (disch := first | omega | exact getEq rfl | exact getO0 | exact Nat.le_of_ble_eq_true rfl) [c51_o4, c51_o5, came_some, goI, List.getElem?_cons_zero, List.getElem?_cons_succ, kn, keep, frameOf, Heap.size, Heap.get, Eff.app, Heap.setOwn, putAt, AV.cells, fillA, loadA, takeA, mk, Eff.isAll, Eff.isNone, Eff.commutes, Eff.spares, okPair, apart, eqAgg, fits, LK.fits, allEq, aveq, eqk, mmA, beqT, wrapI, idxI, tdivI, tmodI, decT, decF, ibT, ibF, inT, inF, evScope_c, if_pos, if_neg, g0, g1, g2, g3, g4, K.k24, e4, f5, e5]
  have t6 : Tr tbl J (c51_o6) (fun s h => s.get [false] = .ptr 0 0 6 ∧ s.get [false, false] = .ptr 1 0 5 ∧ s.get [true, false] = G lot ∧ s.get [false, true] = G n ∧ s.get [true, true] = G m ∧ s.get [false, false, false] = G c ∧ s.get [true, false, false] = G r ∧ h = ⟨e0.get, 0, [.cells 0 6 [G x0, G x1, G x2, G x3, G x4, G x5], .cells 0 5 [G 0, G 0, G 0, G 0, G 0]]⟩) .normal (fun s h => s.get [false, false] = .ptr 1 0 5 ∧ s.get [true, false] = G lot ∧ s.get [false, true] = G n ∧ s.get [true, true] = G m ∧ s.get [false, false, false] = G c ∧ s.get [true, false, false] = G r ∧ s.get [false, true, false] = G d ∧ h = ⟨e0.get, 0, [.cells 0 6 [G x0, G x1, G x2, G x3, G x4, G x5], .cells 0 5 [G 0, G 0, G 0, G 0, G 0]]⟩) := Tr.region fun s h hp => by
    obtain ⟨g0, g1, g2, g3, g4, g5, g6, rfl⟩ := hp
    simp (disch := first | omega | exact getEq rfl | exact getO0 | exact Nat.le_of_ble_eq_true rfl) [c51_o6, came_some, goI, List.getElem?_cons_zero, List.getElem?_cons_succ, kn, keep, frameOf, Heap.size, Heap.get, Eff.app, Heap.setOwn, putAt, AV.cells, fillA, loadA, takeA, mk, Eff.isAll, Eff.isNone, Eff.commutes, Eff.spares, okPair, apart, eqAgg, fits, LK.fits, allEq, aveq, eqk, mmA, beqT, wrapI, idxI, tdivI, tmodI, decT, decF, ibT, ibF, inT, inF, evScope_c, if_pos, if_neg, g0, g1, g2, g3, g4, g5, g6, K.k24, f6, e6]
  have t7 : Tr tbl J ((.seq c51_o7 .ret)) (fun s h => s.get [false, false] = .ptr 1 0 5 ∧ s.get [true, false] = G lot ∧ s.get [false, true] = G n ∧ s.get [true, true] = G m ∧ s.get [false, false, false] = G c ∧ s.get [true, false, false] = G r ∧ s.get [false, true, false] = G d ∧ h = ⟨e0.get, 0, [.cells 0 6 [G x0, G x1, G x2, G x3, G x4, G x5], .cells 0 5 [G 0, G 0, G 0, G 0, G 0]]⟩) .ret (fun s h => s.get [true] = G lot ∧ s.get [false, false] = .ptr 1 0 5 ∧ h = ⟨e0.get, 0, [.cells 0 6 [G x0, G x1, G x2, G x3, G x4, G x5], .cells 0 5 [G n, G c, G r, G m, G d]]⟩) := Tr.region fun s h hp => by
    obtain ⟨g0, g1, g2, g3, g4, g5, g6, rfl⟩ := hp
    simp (disch := first | omega | exact getEq rfl | exact getO0 | exact Nat.le_of_ble_eq_true rfl) [c51_o7, came_some, goI, List.getElem?_cons_zero, List.getElem?_cons_succ, kn, keep, frameOf, Heap.size, Heap.get, Eff.app, Heap.setOwn, putAt, AV.cells, fillA, loadA, takeA, mk, Eff.isAll, Eff.isNone, Eff.commutes, Eff.spares, okPair, apart, eqAgg, fits, LK.fits, allEq, aveq, eqk, mmA, beqT, wrapI, idxI, tdivI, tmodI, decT, decF, ibT, ibF, inT, inF, evScope_c, if_pos, if_neg, g0, g1, g2, g3, g4, g5, g6]
  refine Tr.post (fun s h q => ?_) (Tr.app2 t0 (Tr.app2 t2 (Tr.app2 t4 (Tr.seq t6 t7))))
  obtain ⟨q1, q2, rfl⟩ := q
  simp [c51, q1, q2, loadA, Heap.get, takeA]
theorem q51_in (x0 x1 x2 x3 x4 x5 : Int) {lot n c r m d : Int} (e1 : 2 + mdZ x0 35 = lot) (e2 : 1 + mdZ x1 (lot - 1) = n) (e3 : 1 + mdZ x2 (lot - n) = m) (e4 : mdZ x3 n = c) (e5 : c + 2 + mdZ x4 (n - c) = r) (e6 : r - 1 + mdZ x5 (n + m - r + 1) = d) :
    (2 ≤ lot ∧ lot ≤ 36) ∧ (1 ≤ n ∧ n < lot) ∧ (1 ≤ m ∧ m ≤ lot - n) ∧ (0 ≤ c ∧ c < n) ∧ (c + 2 ≤ r ∧ r ≤ n + 1) ∧ (r - 1 ≤ d ∧ d ≤ n + m - 1) := by
  have a1 := mdZ_lo x0 (show (0 : Int) < 35 by omega)
  have a2 := mdZ_hi x0 (show (0 : Int) < 35 by omega)
  have b1 : 2 ≤ lot ∧ lot ≤ 36 := by omega
  have a3 := mdZ_lo x1 (show 0 < lot - 1 by omega)
  have a4 := mdZ_hi x1 (show 0 < lot - 1 by omega)
  have b2 : 1 ≤ n ∧ n < lot := by omega
  have a5 := mdZ_lo x2 (show 0 < lot - n by omega)
  have a6 := mdZ_hi x2 (show 0 < lot - n by omega)
  have b3 : 1 ≤ m ∧ m ≤ lot - n := by omega
  have a7 := mdZ_lo x3 (show 0 < n by omega)
  have a8 := mdZ_hi x3 (show 0 < n by omega)
  have b4 : 0 ≤ c ∧ c < n := by omega
  have a9 := mdZ_lo x4 (show 0 < n - c by omega)
  have a10 := mdZ_hi x4 (show 0 < n - c by omega)
  have b5 : c + 2 ≤ r ∧ r ≤ n + 1 := by omega
  have a11 := mdZ_lo x5 (show 0 < n + m - r + 1 by omega)
  have a12 := mdZ_hi x5 (show 0 < n + m - r + 1 by omega)
  exact ⟨b1, b2, b3, b4, b5, by omega⟩

noncomputable def M1 : CallF := addV D8 66 spec66
theorem v1 : Sound Go.Proofs.Try.prog M1 := Sound.addV follows ok u8 (by decide) (fun args v h => by
  unfold spec66 at h
  split at h
  · split at h
    · rename_i hh
      simp only [Option.some.injEq] at h; subst h; exact c66_ok D8 knD8 (fun _ _ => rfl) _ _ _ _ _ _ hh
    · cases h
  · cases h)
theorem m66 (h : Heap) (lot n c r m d : Int) (h1 : 1 ≤ lot) (h2 : lot ≤ 36) : M1 66 [G lot, .agg [G n, G c, G r, G m, G d]] h = some (.bool (decide (dblOk lot n c r m d)), [], false) := by simp [M1, AEv.addV, spec66, h1, h2]
theorem knM1 : Kn M1 := ⟨f67, f68, f59, f52, f60, f54, f58, f57, f56, f25, f18, f20, f30, f29, f31, f24, f22, f28, f23, f55, f27, f55r⟩
theorem hdM {lot bad n c r m d : Int} (h : lotOk lot bad ∧ dblOk lot n c r m d) : HD lot bad n c r m d := ⟨h.1.1, h.1.2, h.2.1, h.2.2.1, h.2.2.2.1, h.2.2.2.2.1, h.2.2.2.2.2⟩
theorem hmM {lot n c r m d : Int} (h : lotOk lot 0 ∧ dblOk lot n c r m d) : HM lot n c r m d := ⟨h.1.1, h.2.1, h.2.2.1, h.2.2.2.1, h.2.2.2.2.1, h.2.2.2.2.2⟩
noncomputable def M2 : CallF := addV M1 46 spec46M
theorem v2 : Sound Go.Proofs.Try.prog M2 := Sound.addV follows ok v1 (by decide) (fun args v h => by
  unfold spec46M at h
  split at h
  · split at h
    · rename_i hh
      simp only [Option.some.injEq] at h; subst h; exact c46_good M1 knM1 m66 (fun _ _ => rfl) (hdM hh)
    · cases h
  · cases h)
noncomputable def M3 : CallF := addV M2 51 spec51
theorem knM2 : Kn M2 := ⟨f67, f68, f59, f52, f60, f54, f58, f57, f56, f25, f18, f20, f30, f29, f31, f24, f22, f28, f23, f55, f27, f55r⟩
theorem v3 : Sound Go.Proofs.Try.prog M3 := Sound.addV follows ok v2 (by decide) (fun args v h => by
  unfold spec51 at h
  split at h
  · rename_i x0 x1 x2 x3 x4 x5
    unfold q51 at h
    simp only [Option.some.injEq] at h
    obtain ⟨b1, b2, b3, b4, b5, b6⟩ := q51_in x0 x1 x2 x3 x4 x5 rfl rfl rfl rfl rfl rfl
    have := c51_ok M2 knM2 (fun _ _ => rfl) x0 x1 x2 x3 x4 x5 _ _ _ _ _ _ rfl rfl rfl rfl rfl rfl b1 b2 b3 b4 b5 b6
    rw [h] at this
    exact this
  · cases h)
noncomputable def M4 : CallF := addI M3 47 spec47M
theorem knM3 : Kn M3 := ⟨f67, f68, f59, f52, f60, f54, f58, f57, f56, f25, f18, f20, f30, f29, f31, f24, f22, f28, f23, f55, f27, f55r⟩
theorem m61 (h : Heap) (b : Nat) (n x : Int) (hb : h.get b = .cells 1 1 [G x]) (h1 : 1 ≤ n) (h2 : n ≤ 60) : M3 61 [.slice b 0 1 1, G n] h = some (.slice h.size 0 n.toNat n.toNat, [.cells 1 n.toNat (List.replicate n.toNat (G x))], false) := y61 h b n x hb h1 h2
theorem m66' (h : Heap) (lot n c r m d : Int) (h1 : 1 ≤ lot) (h2 : lot ≤ 36) : M3 66 [G lot, .agg [G n, G c, G r, G m, G d]] h = some (.bool (decide (dblOk lot n c r m d)), [], false) := m66 h lot n c r m d h1 h2
theorem v4 : Sound Go.Proofs.Try.prog M4 := Sound.add follows ok v3 (by decide) (fun args h x e => by
  unfold spec47M at e
  split at e
  · split at e
    · rename_i hh
      simp only [Option.some.injEq] at e; subst e; exact c47_good M3 knM3 m61 m66' (fun _ _ => rfl) h (hmM hh)
    · cases e
  · cases e)
structure KnM (J : CallF) : Prop extends KnC J where
  k46 : ∀ (h : Heap) (lot bad n c r m d : Int) (hh : lotOk lot bad ∧ dblOk lot n c r m d), J 46 [G lot, G bad, .agg [G n, G c, G r, G m, G d]] h = some (.tup [fr (dblA lot bad n c r m d) (ofZ lot bad), fr (dblP lot bad n c r m d) (ofZ lot bad), G 0], [], false)
  k47 : ∀ (h : Heap) (lot n c r m d : Int) (hh : lotOk lot 0 ∧ dblOk lot n c r m d), J 47 [G lot, .agg [G n, G c, G r, G m, G d]] h = some (.tup [.agg [.slice (h.size + 3) 0 (n + m).toNat (n + m).toNat, .slice (h.size + 5) 0 (n + m).toNat (n + m).toNat], G 0], own47 h.size n c r m d, false)
  k51 : ∀ (h : Heap) (x0 x1 x2 x3 x4 x5 lot n c r m d : Int) (e : q51 x0 x1 x2 x3 x4 x5 = (lot, n, c, r, m, d)), J 51 [.agg [G x0, G x1, G x2, G x3, G x4, G x5]] h = some (.tup [G lot, .agg [G n, G c, G r, G m, G d]], [], false)
theorem m46 (h : Heap) (lot bad n c r m d : Int) (hh : lotOk lot bad ∧ dblOk lot n c r m d) : M4 46 [G lot, G bad, .agg [G n, G c, G r, G m, G d]] h = some (.tup [fr (dblA lot bad n c r m d) (ofZ lot bad), fr (dblP lot bad n c r m d) (ofZ lot bad), G 0], [], false) := by
  have : M2 46 [G lot, G bad, .agg [G n, G c, G r, G m, G d]] h = some (.tup [fr (dblA lot bad n c r m d) (ofZ lot bad), fr (dblP lot bad n c r m d) (ofZ lot bad), G 0], [], false) := by simp [M2, AEv.addV, spec46M, hh, fr]
  exact this
theorem m47 (h : Heap) (lot n c r m d : Int) (hh : lotOk lot 0 ∧ dblOk lot n c r m d) : M4 47 [G lot, .agg [G n, G c, G r, G m, G d]] h = some (.tup [.agg [.slice (h.size + 3) 0 (n + m).toNat (n + m).toNat, .slice (h.size + 5) 0 (n + m).toNat (n + m).toNat], G 0], own47 h.size n c r m d, false) := by
  simp only [M4, addI, if_true, spec47M, if_pos hh]
theorem m51 (h : Heap) (x0 x1 x2 x3 x4 x5 lot n c r m d : Int) (e : q51 x0 x1 x2 x3 x4 x5 = (lot, n, c, r, m, d)) : M4 51 [.agg [G x0, G x1, G x2, G x3, G x4, G x5]] h = some (.tup [G lot, .agg [G n, G c, G r, G m, G d]], [], false) := by
  have : M3 51 [.agg [G x0, G x1, G x2, G x3, G x4, G x5]] h = some (.tup [G lot, .agg [G n, G c, G r, G m, G d]], [], false) := by simp [M3, AEv.addV, spec51, e]
  exact this
theorem knM4 : Kn M4 := ⟨f67, f68, f59, f52, f60, f54, f58, f57, f56, f25, f18, f20, f30, f29, f31, f24, f22, f28, f23, f55, f27, f55r⟩
theorem knCM4 : KnC M4 := ⟨knM4, y26, y32, y33, y33n, y34, y34n⟩
theorem knM4' : KnM M4 := ⟨knCM4, m46, m47, m51⟩

/-! ### The law -/
structure H16 (x0 x1 x2 x3 x4 x5 y lot n c r m d : Int) (B : Nat) (u v p q : Int) : Prop where
  e1 : q51 x0 x1 x2 x3 x4 x5 = (lot, n, c, r, m, d)
  e4 : mdZ y (lot + 1) = B
  r1 : 2 ≤ lot ∧ lot ≤ 36
  r2 : 1 ≤ n ∧ n < lot
  r3 : 1 ≤ m ∧ m ≤ lot - n
  r4 : (B : Int) ≤ lot
  e5 : fr (dblA lot B n c r m d) (ofZ lot B) = .agg [G u, G v]
  e6 : fr (dblP lot B n c r m d) (ofZ lot B) = .agg [G p, G q]
  w1 : vOk u v
  w2 : vOk p q
  f1 : u ≤ v
  f2 : n * q ≤ p
  f3 : p ≤ (n + m) * q
abbrev X16 (S N : Nat) : AObj := .cells 0 2 [.slice (S + 3) 0 N N, .slice (S + 5) 0 N N]
section
variable {x0 x1 x2 x3 x4 x5 y lot n c r m d : Int} {B : Nat} {u v p q : Int}
theorem w16_1 (J : CallF) (K : KnM J) (H : H16 x0 x1 x2 x3 x4 x5 y lot n c r m d B u v p q) : Tr tbl J (.seq c16_o0 (.seq c16_o1 c16_o2)) (fun s h => s = T.set (T.set .leaf [] (.agg [G x0, G x1, G x2, G x3, G x4, G x5])) [false] (G y) ∧ h = ⟨e0.get, 0, []⟩) .normal (fun s h => s.get [false] = G B ∧ s.get [false, true] = G lot ∧ s.get [true, true] = .ptr 1 0 5 ∧ h = ⟨e0.get, 0, [.cells 0 6 [G x0, G x1, G x2, G x3, G x4, G x5], .cells 0 5 [G n, G c, G r, G m, G d]]⟩) := by
  obtain ⟨e1, e4, r1, r2, r3, r4, e5, e6, w1, w2, f1, f2, f3⟩ := H
  have k := fun h => K.k51 h x0 x1 x2 x3 x4 x5 lot n c r m d e1
  have t : Tr tbl J ((.seq c16_o0 (.seq c16_o1 c16_o2))) (fun s h => s = T.set (T.set .leaf [] (.agg [G x0, G x1, G x2, G x3, G x4, G x5])) [false] (G y) ∧ h = ⟨e0.get, 0, []⟩) .normal (fun s h => s.get [false] = G B ∧ s.get [false, true] = G lot ∧ s.get [true, true] = .ptr 1 0 5 ∧ h = ⟨e0.get, 0, [.cells 0 6 [G x0, G x1, G x2, G x3, G x4, G x5], .cells 0 5 [G n, G c, G r, G m, G d]]⟩) := Tr.region fun s h hp => by
    obtain ⟨rfl, rfl⟩ := hp
    simp (disch := first | omega | exact getEq rfl | exact getO0 | exact Nat.le_of_ble_eq_true rfl) [c16_o0, c16_o1, c16_o2, came_some, goI, List.getElem?_cons_zero, List.getElem?_cons_succ, kn, keep, frameOf, Heap.size, Heap.get, Eff.app, Heap.setOwn, putAt, AV.cells, fillA, loadA, takeA, mk, Eff.isAll, Eff.isNone, Eff.commutes, Eff.spares, okPair, apart, eqAgg, fits, LK.fits, allEq, aveq, eqk, mmA, beqT, wrapI, idxI, tdivI, tmodI, decT, decF, ibT, ibF, inT, inF, evScope_c, if_pos, if_neg, k, K.k24, e4]
  exact t

theorem w16_3 (J : CallF) (K : KnM J) {N : Nat} (hN : (n + m).toNat = N) (hh : lotOk lot 0 ∧ dblOk lot n c r m d) (H : Heap) (g6 : H.get 1 = .cells 0 5 [G n, G c, G r, G m, G d]) : Tr tbl J c16_o3 (fun s h => s.get [false] = G B ∧ s.get [false, true] = G lot ∧ s.get [true, true] = .ptr 1 0 5 ∧ h = H) .normal (fun s h => s.get [false] = G B ∧ s.get [false, true] = G lot ∧ s.get [true, true] = .ptr 1 0 5 ∧ s.get [false, false, false] = .ptr (H.plus (own47 H.size n c r m d)).size 0 2 ∧ s.get [true, false, false] = G 0 ∧ h = (H.plus (own47 H.size n c r m d)).plus [X16 H.size N]) := by
  have k := fun h => K.k47 h lot n c r m d hh
  rw [hN] at k
  have hne : ∀ S, own47 S n c r m d ≠ [] := fun S => by simp [own47]
  have t : Tr tbl J (c16_o3) (fun s h => s.get [false] = G B ∧ s.get [false, true] = G lot ∧ s.get [true, true] = .ptr 1 0 5 ∧ h = H) .normal (fun s h => s.get [false] = G B ∧ s.get [false, true] = G lot ∧ s.get [true, true] = .ptr 1 0 5 ∧ s.get [false, false, false] = .ptr (H.plus (own47 H.size n c r m d)).size 0 2 ∧ s.get [true, false, false] = G 0 ∧ h = (H.plus (own47 H.size n c r m d)).plus [X16 H.size N]) := Tr.region fun s h hp => by
    obtain ⟨g0, g1, g2, rfl⟩ := hp
    simp (disch := first | omega | exact getEq rfl | exact getO0 | exact Nat.le_of_ble_eq_true rfl) [c16_o3, came_some, goI, List.getElem?_cons_zero, List.getElem?_cons_succ, kn, keep, app_growP, app_noneP, plus_N, plus_at0, put_plus0, upd_N, upd_size, putAt, AV.cells, fillA, loadA, takeA, mk, Eff.isAll, Eff.isNone, Eff.commutes, Eff.spares, okPair, apart, eqAgg, fits, LK.fits, allEq, aveq, eqk, mmA, beqT, wrapI, idxI, tdivI, tmodI, decT, decF, ibT, ibF, inT, inF, evScope_c, if_pos, if_neg, g0, g1, g2, k, hne, g6]
  exact t

theorem put_two (h : Heap) (a b : AV) (U V : AV) (zs : List AObj) : Eff.app (.put h.size 2 0 [U, V]) ((h.plus [.cells 0 2 [a, b]]).plus zs) = some ((h.plus [.cells 0 2 [U, V]]).plus zs) := by
  rw [plus_plus, plus_plus]; exact put_plus0 h 2 0 0 [a, b] [U, V] zs h.size rfl (by simp)
theorem put_two1 (h : Heap) (X : AObj) (a b : AV) (U V : AV) : Eff.app (.put (h.size + 1) 2 0 [U, V]) ((h.plus [X]).plus [.cells 0 2 [a, b]]) = some ((h.plus [X]).plus [.cells 0 2 [U, V]]) :=
  put_plus0 (h.plus [X]) 2 0 0 [a, b] [U, V] [] (h.size + 1) (by rw [plus_size]; rfl) (by simp)

theorem w16_4 (J : CallF) (x7 : AV) (h0 : Heap) (g6 : h0.get 1 = .cells 0 5 [G n, G c, G r, G m, G d]) (k : J 46 [G lot, G B, .agg [G n, G c, G r, G m, G d]] h0 = some (.tup [.agg [G u, G v], .agg [G p, G q], G 0], [], false)) :
    Tr tbl J c16_o4 (fun s h => s.get [false] = G B ∧ s.get [false, true] = G lot ∧ s.get [true, true] = .ptr 1 0 5 ∧ s.get [false, false, false] = x7 ∧ s.get [true, false, false] = G 0 ∧ h = h0) .normal (fun s h => s.get [false] = G B ∧ s.get [false, true] = G lot ∧ s.get [true, true] = .ptr 1 0 5 ∧ s.get [false, false, false] = x7 ∧ s.get [true, false, false] = G 0 ∧ s.get [false, true, false] = .ptr h0.size 0 2 ∧ s.get [true, true, false] = .ptr (h0.size + 1) 0 2 ∧ s.get [false, false, true] = G 0 ∧ h = (h0.plus [.cells 0 2 [G u, G v]]).plus [.cells 0 2 [G p, G q]]) := by
  have hs : ∀ X : AObj, (h0.plus [X]).size = h0.size + 1 := fun X => by rw [plus_size]; rfl
  have t : Tr tbl J (c16_o4) (fun s h => s.get [false] = G B ∧ s.get [false, true] = G lot ∧ s.get [true, true] = .ptr 1 0 5 ∧ s.get [false, false, false] = x7 ∧ s.get [true, false, false] = G 0 ∧ h = h0) .normal (fun s h => s.get [false] = G B ∧ s.get [false, true] = G lot ∧ s.get [true, true] = .ptr 1 0 5 ∧ s.get [false, false, false] = x7 ∧ s.get [true, false, false] = G 0 ∧ s.get [false, true, false] = .ptr h0.size 0 2 ∧ s.get [true, true, false] = .ptr (h0.size + 1) 0 2 ∧ s.get [false, false, true] = G 0 ∧ h = (h0.plus [.cells 0 2 [G u, G v]]).plus [.cells 0 2 [G p, G q]]) := Tr.region fun s h hp => by
    obtain ⟨g0, g1, g2, g3, g4, rfl⟩ := hp
    simp (disch := first | omega | exact getEq rfl | exact getO0 | exact Nat.le_of_ble_eq_true rfl) [c16_o4, came_some, goI, List.getElem?_cons_zero, List.getElem?_cons_succ, kn, keep, app_growP, app_noneP, plus_N, plus_at0, put_plus0, upd_N, upd_size, putAt, AV.cells, fillA, loadA, takeA, mk, Eff.isAll, Eff.isNone, Eff.commutes, Eff.spares, okPair, apart, eqAgg, fits, LK.fits, allEq, aveq, eqk, mmA, beqT, wrapI, idxI, tdivI, tmodI, decT, decF, ibT, ibF, inT, inF, evScope_c, if_pos, if_neg, g0, g1, g2, g3, g4, g6, k, hs, put_two, put_two1]
  exact t

theorem w16_5 (J : CallF) {b7 : Nat} {xa xr : AV} (x9 x10 : AV) (h0 : Heap) (f7 : h0.get b7 = .cells 0 2 [xa, xr]) (k : J 34 [G lot, G B, .agg [xa, xr]] h0 = some (.tup [.agg [G u, G v], .agg [G p, G q], G 0], [], false)) :
    Tr tbl J c16_o5 (fun s h => s.get [false] = G B ∧ s.get [false, true] = G lot ∧ s.get [true, true] = .ptr 1 0 5 ∧ s.get [false, false, false] = .ptr b7 0 2 ∧ s.get [true, false, false] = G 0 ∧ s.get [false, true, false] = x9 ∧ s.get [true, true, false] = x10 ∧ s.get [false, false, true] = G 0 ∧ h = h0) .normal (fun s h => s.get [true, true] = .ptr 1 0 5 ∧ s.get [true, false, false] = G 0 ∧ s.get [false, true, false] = x9 ∧ s.get [true, true, false] = x10 ∧ s.get [false, false, true] = G 0 ∧ s.get [true, false, true] = .ptr h0.size 0 2 ∧ s.get [false, true, true] = .ptr (h0.size + 1) 0 2 ∧ s.get [true, true, true] = G 0 ∧ h = (h0.plus [.cells 0 2 [G u, G v]]).plus [.cells 0 2 [G p, G q]]) := by
  have hs : ∀ X : AObj, (h0.plus [X]).size = h0.size + 1 := fun X => by rw [plus_size]; rfl
  have t : Tr tbl J (c16_o5) (fun s h => s.get [false] = G B ∧ s.get [false, true] = G lot ∧ s.get [true, true] = .ptr 1 0 5 ∧ s.get [false, false, false] = .ptr b7 0 2 ∧ s.get [true, false, false] = G 0 ∧ s.get [false, true, false] = x9 ∧ s.get [true, true, false] = x10 ∧ s.get [false, false, true] = G 0 ∧ h = h0) .normal (fun s h => s.get [true, true] = .ptr 1 0 5 ∧ s.get [true, false, false] = G 0 ∧ s.get [false, true, false] = x9 ∧ s.get [true, true, false] = x10 ∧ s.get [false, false, true] = G 0 ∧ s.get [true, false, true] = .ptr h0.size 0 2 ∧ s.get [false, true, true] = .ptr (h0.size + 1) 0 2 ∧ s.get [true, true, true] = G 0 ∧ h = (h0.plus [.cells 0 2 [G u, G v]]).plus [.cells 0 2 [G p, G q]]) := Tr.region fun s h hp => by
    obtain ⟨g0, g1, g2, g3, g4, g5, g6, g7, rfl⟩ := hp
    simp (disch := first | omega | exact getEq rfl | exact getO0 | exact Nat.le_of_ble_eq_true rfl) [c16_o5, came_some, goI, List.getElem?_cons_zero, List.getElem?_cons_succ, kn, keep, app_growP, app_noneP, plus_N, plus_at0, put_plus0, upd_N, upd_size, putAt, AV.cells, fillA, loadA, takeA, mk, Eff.isAll, Eff.isNone, Eff.commutes, Eff.spares, okPair, apart, eqAgg, fits, LK.fits, allEq, aveq, eqk, mmA, beqT, wrapI, idxI, tdivI, tmodI, decT, decF, ibT, ibF, inT, inF, evScope_c, if_pos, if_neg, g0, g1, g2, g3, g4, g5, g6, g7, f7, k, hs, put_two, put_two1]
  exact t

theorem w16_6 (J : CallF) (K : KnM J) {b9 b10 b12 b13 : Nat} (w1 : vOk u v) (w2 : vOk p q) (h0 : Heap) (g9 : h0.get b9 = .cells 0 2 [G u, G v]) (g10 : h0.get b10 = .cells 0 2 [G p, G q]) (g12 : h0.get b12 = .cells 0 2 [G u, G v]) (g13 : h0.get b13 = .cells 0 2 [G p, G q]) :
    Tr tbl J (.seq c16_o6 (.cond (.s [false, false, true, true, false, false]) (.seq c16_o7 .ret) .skip)) (fun s h => s.get [true, true] = .ptr 1 0 5 ∧ s.get [true, false, false] = G 0 ∧ s.get [false, true, false] = .ptr b9 0 2 ∧ s.get [true, true, false] = .ptr b10 0 2 ∧ s.get [false, false, true] = G 0 ∧ s.get [true, false, true] = .ptr b12 0 2 ∧ s.get [false, true, true] = .ptr b13 0 2 ∧ s.get [true, true, true] = G 0 ∧ h = h0) .normal (fun s h => s.get [true, true] = .ptr 1 0 5 ∧ s.get [false, true, false] = .ptr b9 0 2 ∧ s.get [true, true, false] = .ptr b10 0 2 ∧ h = h0) := by
  have t : Tr tbl J ((.seq c16_o6 (.cond (.s [false, false, true, true, false, false]) (.seq c16_o7 .ret) .skip))) (fun s h => s.get [true, true] = .ptr 1 0 5 ∧ s.get [true, false, false] = G 0 ∧ s.get [false, true, false] = .ptr b9 0 2 ∧ s.get [true, true, false] = .ptr b10 0 2 ∧ s.get [false, false, true] = G 0 ∧ s.get [true, false, true] = .ptr b12 0 2 ∧ s.get [false, true, true] = .ptr b13 0 2 ∧ s.get [true, true, true] = G 0 ∧ h = h0) .normal (fun s h => s.get [true, true] = .ptr 1 0 5 ∧ s.get [false, true, false] = .ptr b9 0 2 ∧ s.get [true, true, false] = .ptr b10 0 2 ∧ h = h0) := Tr.region fun s h hp => by
    obtain ⟨g0, g1, g2, g3, g4, g5, g6, g7, rfl⟩ := hp
    simp (disch := first | omega | exact getEq rfl | exact getO0 | exact Nat.le_of_ble_eq_true rfl) [c16_o6, came_some, goI, List.getElem?_cons_zero, List.getElem?_cons_succ, kn, keep, app_growP, app_noneP, plus_N, plus_at0, put_plus0, upd_N, upd_size, putAt, AV.cells, fillA, loadA, takeA, mk, Eff.isAll, Eff.isNone, Eff.commutes, Eff.spares, okPair, apart, eqAgg, fits, LK.fits, allEq, aveq, eqk, mmA, beqT, wrapI, idxI, tdivI, tmodI, decT, decF, ibT, ibF, inT, inF, evScope_c, if_pos, if_neg, g0, g1, g2, g3, g4, g5, g6, g7, g9, g10, g12, g13, K.k26, w1, w2]
  exact t

theorem w16_8 (J : CallF) (K : KnM J) {b9 b10 : Nat} (hn : 1 ≤ n ∧ n ≤ 36) (hm : 1 ≤ m ∧ m ≤ 36) (w1 : vOk u v) (w2 : vOk p q) (f1 : u ≤ v) (f2 : n * q ≤ p) (f3 : p ≤ (n + m) * q) (h0 : Heap) (g6 : h0.get 1 = .cells 0 5 [G n, G c, G r, G m, G d]) (g9 : h0.get b9 = .cells 0 2 [G u, G v]) (g10 : h0.get b10 = .cells 0 2 [G p, G q]) :
    Tr tbl J (.seq c16_o8 .ret) (fun s h => s.get [true, true] = .ptr 1 0 5 ∧ s.get [false, true, false] = .ptr b9 0 2 ∧ s.get [true, true, false] = .ptr b10 0 2 ∧ h = h0) .ret (fun s h => s.get [true, false] = .bool true) := by
  obtain ⟨w4, w5, w6⟩ := w2
  have t : Tr tbl J ((.seq c16_o8 .ret)) (fun s h => s.get [true, true] = .ptr 1 0 5 ∧ s.get [false, true, false] = .ptr b9 0 2 ∧ s.get [true, true, false] = .ptr b10 0 2 ∧ h = h0) .ret (fun s h => s.get [true, false] = .bool true) := Tr.region fun s h hp => by
    obtain ⟨g0, g1, g2, rfl⟩ := hp
    simp (disch := first | omega | exact getEq rfl | exact getO0 | exact Nat.le_of_ble_eq_true rfl) [c16_o8, came_some, goI, List.getElem?_cons_zero, List.getElem?_cons_succ, kn, keep, app_growP, app_noneP, plus_N, plus_at0, put_plus0, upd_N, upd_size, putAt, AV.cells, fillA, loadA, takeA, mk, Eff.isAll, Eff.isNone, Eff.commutes, Eff.spares, okPair, apart, eqAgg, fits, LK.fits, allEq, aveq, eqk, mmA, beqT, wrapI, idxI, tdivI, tmodI, decT, decF, ibT, ibF, inT, inF, evScope_c, if_pos, if_neg, g0, g1, g2, g6, g9, g10, f1, f2, f3, K.k27, K.k20]
  exact t

theorem mrg_all (J : CallF) (K : KnM J) (hJ : ∀ a h, J 16 a h = none) (H : H16 x0 x1 x2 x3 x4 x5 y lot n c r m d B u v p q) (hd : dblOk lot n c r m d)
    (hcr : crsOk lot (zl (mA n c m d) (n + m).toNat) (zl (mR n r m d) (n + m).toNat))
    (hy : yT lot B ((zl (mA n c m d) (n + m).toNat).getD · 0) ((zl (mR n r m d) (n + m).toNat).getD · 0) (n + m).toNat = dblA lot B n c r m d) (hp : (pT lot B ((zl (mA n c m d) (n + m).toNat).getD · 0) ((zl (mR n r m d) (n + m).toNat).getD · 0) (n + m).toNat : Int) = dblP lot B n c r m d) :
    CallsTo tbl J 16 [.agg [G x0, G x1, G x2, G x3, G x4, G x5], G y] e0 (.bool true, [], false) := by
  obtain ⟨e1, e4, r1, r2, r3, r4, e5, e6, w1, w2, f1, f2, f3⟩ := id H
  refine Tr.fnv (cf := c16) (e := .ret) (s := T.set (T.set .leaf [] (.agg [G x0, G x1, G x2, G x3, G x4, G x5])) [false] (G y)) (by decide) rfl (hJ _ _) rfl rfl rfl (by simp) ?_
  refine Tr.post (Q := (fun s h => s.get [true, false] = .bool true)) (fun s h q => by simp [c16, q]) (Tr.app3 (w16_1 J K H) ?_)
  obtain ⟨H1, s1⟩ : ∃ H, (⟨e0.get, 0, [.cells 0 6 [G x0, G x1, G x2, G x3, G x4, G x5], .cells 0 5 [G n, G c, G r, G m, G d]]⟩ : Heap) = H := ⟨_, rfl⟩
  have g6 : H1.get 1 = .cells 0 5 [G n, G c, G r, G m, G d] := by rw [← s1]; rfl
  rw [s1]
  clear s1
  have hlot0 : lotOk lot 0 := by unfold lotOk; omega
  have hlot : lotOk lot B := by unfold lotOk; omega
  obtain ⟨N, hN⟩ : ∃ N, (n + m).toNat = N := ⟨_, rfl⟩
  refine Tr.seq (w16_3 J K hN ⟨hlot0, hd⟩ H1 g6) ?_
  obtain ⟨H2, s2⟩ : ∃ H, (H1.plus (own47 H1.size n c r m d)).plus [X16 H1.size N] = H := ⟨_, rfl⟩
  obtain ⟨b7, eb7⟩ : ∃ b, (H1.plus (own47 H1.size n c r m d)).size = b := ⟨_, rfl⟩
  have g7 : H2.get b7 = X16 H1.size N := by rw [← s2]; exact plus_at0 _ _ _ _ eb7
  have fa : H2.get (H1.size + 3) = .cells 1 N (zs (mA n c m d) N) := by
    rw [← s2]; refine plus_keep _ ?_ (by simp)
    rw [plus_ge _ _ _ (by omega), Nat.add_sub_cancel_left, ← hN]; rfl
  have fr' : H2.get (H1.size + 5) = .cells 1 N (zs (mR n r m d) N) := by
    rw [← s2]; refine plus_keep _ ?_ (by simp)
    rw [plus_ge _ _ _ (by omega), Nat.add_sub_cancel_left, ← hN]; rfl
  have g6' : H2.get 1 = .cells 0 5 [G n, G c, G r, G m, G d] := by rw [← s2]; exact plus_keep _ (plus_keep _ g6 (by simp)) (by simp)
  rw [s2, eb7]
  rw [hN] at hcr hy hp
  generalize H1.size = S at *
  clear s2 eb7 g6 H1
  have g6 := g6'
  clear g6'
  have l1 : ∀ h : Heap, h.get (S + 3) = .cells 1 N (zs (mA n c m d) N) → listOf h (.slice (S + 3) 0 N N) = some (zl (mA n c m d) N) := fun h e => listOf_cells (by rw [e, zs_map]) (zl_len _ _)
  have l2 : ∀ h : Heap, h.get (S + 5) = .cells 1 N (zs (mR n r m d) N) → listOf h (.slice (S + 5) 0 N N) = some (zl (mR n r m d) N) := fun h e => listOf_cells (by rw [e, zs_map]) (zl_len _ _)
  have kc : ∀ h : Heap, h.get (S + 3) = .cells 1 N (zs (mA n c m d) N) → h.get (S + 5) = .cells 1 N (zs (mR n r m d) N) → J 34 [G lot, G B, .agg [.slice (S + 3) 0 N N, .slice (S + 5) 0 N N]] h = some (.tup [.agg [G u, G v], .agg [G p, G q], G 0], [], false) := fun h q1 q2 => by
    rw [K.k34 h lot B _ _ _ _ (l1 h q1) (l2 h q2) hlot hcr, zl_len, hy, hp, e5, e6]
  have kd : ∀ h : Heap, J 46 [G lot, G B, .agg [G n, G c, G r, G m, G d]] h = some (.tup [.agg [G u, G v], .agg [G p, G q], G 0], [], false) := fun h => by
    rw [K.k46 h lot B n c r m d ⟨hlot, hd⟩, e5, e6]
  refine Tr.seq (w16_4 J _ H2 g6 (kd _)) ?_
  obtain ⟨H4, s4⟩ : ∃ H, (H2.plus [.cells 0 2 [G u, G v]]).plus [.cells 0 2 [G p, G q]] = H := ⟨_, rfl⟩
  have kk : ∀ {b : Nat} {x : AObj}, H2.get b = x → x ≠ .hole → H4.get b = x := fun e hx => by rw [← s4]; exact plus_keep _ (plus_keep _ e hx) hx
  have g9 : H4.get H2.size = .cells 0 2 [G u, G v] := by rw [← s4]; exact plus_keep _ (plus_at0 _ _ _ _ rfl) (by simp)
  have g10 : H4.get (H2.size + 1) = .cells 0 2 [G p, G q] := by rw [← s4]; exact plus_at0 _ _ _ _ (by rw [plus_size]; rfl)
  have g6 := kk g6 (by simp)
  have g7 := kk g7 (by simp)
  have fa := kk fa (by simp)
  have fr' := kk fr' (by simp)
  rw [s4]
  generalize H2.size = b9 at *
  clear s4 kk
  refine Tr.seq (w16_5 J _ _ H4 g7 (kc _ fa fr')) ?_
  obtain ⟨H5, s5⟩ : ∃ H, (H4.plus [.cells 0 2 [G u, G v]]).plus [.cells 0 2 [G p, G q]] = H := ⟨_, rfl⟩
  have kk : ∀ {b : Nat} {x : AObj}, H4.get b = x → x ≠ .hole → H5.get b = x := fun e hx => by rw [← s5]; exact plus_keep _ (plus_keep _ e hx) hx
  have g12 : H5.get H4.size = .cells 0 2 [G u, G v] := by rw [← s5]; exact plus_keep _ (plus_at0 _ _ _ _ rfl) (by simp)
  have g13 : H5.get (H4.size + 1) = .cells 0 2 [G p, G q] := by rw [← s5]; exact plus_at0 _ _ _ _ (by rw [plus_size]; rfl)
  rw [s5]
  refine Tr.seq (w16_6 J K w1 w2 H5 (kk g9 (by simp)) (kk g10 (by simp)) g12 g13) ?_
  exact w16_8 J K (by omega) (by omega) w1 w2 f1 f2 f3 H5 (kk g6 (by simp)) (kk g9 (by simp)) (kk g10 (by simp))
end

theorem mrg_law (J : CallF) (K : KnM J) (hJ : ∀ a h, J 16 a h = none) (x0 x1 x2 x3 x4 x5 y : Int) : CallsTo tbl J 16 [.agg [G x0, G x1, G x2, G x3, G x4, G x5], G y] e0 (.bool true, [], false) := by
  obtain ⟨⟨lot, n', c, r, m', d⟩, e1⟩ : ∃ z, q51 x0 x1 x2 x3 x4 x5 = z := ⟨_, rfl⟩
  have e1' := e1
  simp only [q51, Prod.mk.injEq] at e1'
  obtain ⟨a1, a2, a3, a4, a5, a6⟩ := e1'
  subst a1 a2 a3 a4 a5 a6
  obtain ⟨b1, b2, b3, b4, b5, b6⟩ := q51_in x0 x1 x2 x3 x4 x5 rfl rfl rfl rfl rfl rfl
  generalize 2 + mdZ x0 35 = lot at *
  generalize 1 + mdZ x1 (lot - 1) = n' at *
  generalize 1 + mdZ x2 (lot - n') = m' at *
  generalize mdZ x3 n' = c at *
  generalize c + 2 + mdZ x4 (n' - c) = r at *
  generalize r - 1 + mdZ x5 (n' + m' - r + 1) = d at *
  have m1 := mdZ_lo y (show 0 < lot + 1 by omega)
  have m2 := mdZ_hi y (show 0 < lot + 1 by omega)
  obtain ⟨B, e4⟩ : ∃ B : Nat, mdZ y (lot + 1) = B := ⟨(mdZ y (lot + 1)).toNat, by omega⟩
  obtain ⟨n, rfl⟩ : ∃ N : Nat, n' = N := ⟨n'.toNat, by omega⟩
  obtain ⟨m, rfl⟩ : ∃ N : Nat, m' = N := ⟨m'.toNat, by omega⟩
  have hN : ((n : Int) + m).toNat = n + m := by omega
  have hd : dblOk lot n c r m d := by unfold dblOk; omega
  have gA : ∀ i, i < n + m → (zl (mA n c m d) (n + m)).getD i 0 = mA n c m d i := fun i hi => zl_at _ hi
  have gR : ∀ i, i < n + m → (zl (mR n r m d) (n + m)).getD i 0 = mR n r m d i := fun i hi => zl_at _ hi
  have D : DC lot ((zl (mA n c m d) (n + m)).getD · 0) ((zl (mR n r m d) (n + m)).getD · 0) n m c r d := by
    refine ⟨by omega, by omega, by omega, by omega, by omega, fun i hi => ?_, ?_, fun i h1 h2 => ?_, ?_⟩
    · simp only [gA i (by omega), gR i (by omega), mA, mR]
      rw [if_neg (by omega), if_neg (by omega), if_neg (by omega), if_neg (by omega)]; omega
    · simp only [gA (n - 1) (by omega), gR (n - 1) (by omega), mA, mR]
      rw [if_neg (by omega), if_pos (by omega), if_neg (by omega), if_pos (by omega)]; omega
    · simp only [gA i (by omega), gR i (by omega), mA, mR]
      rw [if_neg (by omega), if_neg (by omega), if_neg (by omega), if_neg (by omega)]; omega
    · simp only [gA (n + m - 1) (by omega), gR (n + m - 1) (by omega), mA, mR]
      rw [if_pos (by omega), if_pos (by omega)]; omega
  have hcr : crsOk lot (zl (mA n c m d) (n + m)) (zl (mR n r m d) (n + m)) := by
    refine ⟨⟨by rw [zl_len]; omega, by rw [zl_len]; omega⟩, by rw [zl_len, zl_len], fun i hi => ?_, ?_⟩
    · rw [zl_len] at hi ⊢
      unfold stepOk
      rw [gA i hi, gR i hi]; unfold mA mR
      split
      · omega
      · split <;> omega
    · rw [zl_len, gA _ (by omega), gR _ (by omega)]; unfold mA mR
      rw [if_pos (by omega), if_pos (by omega)]
  have hy := dc_dbl (bad := B) D
  obtain ⟨hp, hs, hz⟩ := dc_p (bad := B) (by omega) (by omega) D
  have z1 := ofZ_pos (n := lot) (k := (B : Int)) (by omega) (by omega)
  have z2 := ofZ_big (n := lot) (k := (B : Int)) (by omega)
  have hP : dblP lot B n c r m d = ((n * ofZ lot B + m * sec lot B n c (r - c - 1).toNat : Nat) : Int) := by unfold dblP; rw [Int.natCast_add, Int.natCast_mul, Int.natCast_mul]
  rw [hy] at hz
  have y1 : n * ofZ lot B ≤ 36 * 9075135300 := Nat.mul_le_mul (by omega) z2
  have y2 : m * sec lot B n c (r - c - 1).toNat ≤ m * ofZ lot B := Nat.mul_le_mul_left _ hs
  have y3 : m * ofZ lot B ≤ 36 * 9075135300 := Nat.mul_le_mul (by omega) z2
  obtain ⟨g0, u, v, c1, c2, c3, c4, c5, c6, c7⟩ := fr_two (x := dblA lot B n c r m d) (y := ofZ lot B) (by omega) (by omega)
  obtain ⟨g1, p, q, d1, d2, d3, d4, d5, d6, d7⟩ := fr_two (x := dblP lot B n c r m d) (y := ofZ lot B) (by omega) (by omega)
  have f1 : u ≤ v := by
    have : (dblA lot B n c r m d : Int) ≤ ofZ lot B := by omega
    rw [c2, c3] at this
    exact Int.le_of_mul_le_mul_left this c1
  have f2 : n * q ≤ p := by
    have : ((n * ofZ lot B : Nat) : Int) ≤ dblP lot B n c r m d := by omega
    rw [d2, Int.natCast_mul, d3, ← Int.mul_assoc, Int.mul_comm (n : Int) g1, Int.mul_assoc] at this
    exact Int.le_of_mul_le_mul_left this d1
  have f3 : p ≤ ((n : Int) + m) * q := by
    have : dblP lot B n c r m d ≤ (((n + m) * ofZ lot B : Nat) : Int) := by rw [hP, Nat.add_mul]; omega
    rw [d2, Int.natCast_mul, d3, Int.natCast_add, ← Int.mul_assoc, Int.mul_comm ((n : Int) + m) g1, Int.mul_assoc] at this
    exact Int.le_of_mul_le_mul_left this d1
  exact mrg_all J K hJ ⟨e1, e4, b1, b2, b3, by omega, c4, d4, ⟨by omega, by omega, c7⟩, ⟨by omega, by omega, d7⟩, f1, f2, f3⟩ hd (by rw [hN]; exact hcr) (by rw [hN]; exact hy) (by rw [hN]; exact hp)

theorem mrg_ok (x0 x1 x2 x3 x4 x5 y : Int) : CallsTo tbl M4 16 [.agg [G x0, G x1, G x2, G x3, G x4, G x5], G y] e0 (.bool true, [], false) := mrg_law M4 knM4' (fun _ _ => rfl) x0 x1 x2 x3 x4 x5 y

end Go.Proofs.Ytlkgpcfhpeilhaa.Ev
