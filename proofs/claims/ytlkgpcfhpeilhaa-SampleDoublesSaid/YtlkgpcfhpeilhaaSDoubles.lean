/-
  SampleDoubles answers true at any two integers and five more, as the evaluator runs it. No condition.
-/
import Derived.Test.YtlkgpcfhpeilhaaSMerges
set_option linter.unusedVariables false
set_option linter.unusedSimpArgs false
namespace Go.Proofs.Ytlkgpcfhpeilhaa.Ev
open Go Go.AEv

attribute [local simp] evFunc initS evOps_c evTrim_c evSkip_c evExit_c evRet_c evSeq_c evCond_c evBlock_c evDraw_c runOps_n runOps_c exec_n exec_g pure1_c act AOpd.ev T.get T.set T.put evBin evUn forceT_eq forceV_eq forceL_eq evRess evRes one keep runFP_n runFP_c app_none AV.flats AV.flat

/-! ### What is known -/
open Classical in
noncomputable def spec47 : SpecF := fun args h => match args with
  | [.int .i64 lot, .agg [.int .i64 n, .int .i64 c, .int .i64 r, .int .i64 m, .int .i64 d]] =>
    if lotOk lot 0 ∧ dblOk lot n c r m d then some (.tup [.agg [.slice (h.size + 3) 0 (n + m).toNat (n + m).toNat, .slice (h.size + 5) 0 (n + m).toNat (n + m).toNat], G 0], own47 h.size n c r m d, false) else some (.tup [.agg [.nils, .nils], G 2], [], false)
  | _ => none
def spec65 : SpecF := fun args h => match args with
  | [.agg [.slice bA 0 nA vA, .slice bR 0 nR vR], .int .i64 i, .int .i64 k] => match h.get bA, h.get bR with
    | .cells 1 v1 c1, .cells 1 v2 c2 => if v1 = vA ∧ v2 = vR ∧ 1 ≤ i ∧ i ≤ 1000 ∧ i ≤ nA ∧ i ≤ nR then (match c1[(i - 1).toNat]?, c2[(i - 1).toNat]? with
      | some (.int .i64 a), some (.int .i64 r) => some (G (decZ a r k), [], false)
      | _, _ => none) else none
    | _, _ => none
  | _ => none
open Classical in
noncomputable def spec40 : SpecF := fun args h => if ∃ (lot : Int) (A R : Nat → Int) (N bA bR : Nat), args = [G lot, .agg [.slice bA 0 N N, .slice bR 0 N N]] ∧ FitH lot A R N ∧ h.get bA = .cells 1 N (zs A N) ∧ h.get bR = .cells 1 N (zs R N) then some (.bool true, [], false) else none
open Classical in
noncomputable def spec49 : SpecF := fun args h => if ∃ (n c r m d : Int) (N bA bR : Nat), args = [.agg [G n, G c, G r, G m, G d], .agg [.slice bA 0 N N, .slice bR 0 N N]] ∧ HMs n c r m d N ∧ h.get bA = .cells 1 N (zs (mA n c m d) N) ∧ h.get bR = .cells 1 N (zs (mR n r m d) N) then some (.bool true, [], false) else none

noncomputable def E1 : CallF := addV I20 69 spec69
theorem t1 : Sound Go.Proofs.Try.prog E1 := Sound.addV2 follows ok s20 Sound.empty (by decide) (fun args v h => by
  unfold spec69 at h
  split at h
  · split at h
    · rename_i a n hh
      obtain ⟨rfl, h1, h2⟩ := hh
      obtain ⟨N, rfl⟩ : ∃ N : Nat, n = N := ⟨n.toNat, by omega⟩
      simp only [Option.some.injEq] at h; subst h; exact c69_ok N (by omega)
    · cases h
  · cases h)
theorem x69 (h : Heap) (n : Int) (h1 : 0 ≤ n) (h2 : n < 64) : E1 69 [.int .u64 1, .int .u64 n] h = some (.tup [.int .u64 0, .int .u64 n], [], false) := by simp [E1, AEv.addV, spec69, h1, h2, AV.flats, AV.flat]
noncomputable def E2 : CallF := addI E1 61 spec61
theorem t2 : Sound Go.Proofs.Try.prog E2 := Sound.add follows ok t1 (by decide) (fun args h x e => by
  unfold spec61 at e
  split at e
  · split at e
    · split at e
      · rename_i b n _ xv hg hh
        simp only [Option.some.injEq] at e; subst e
        obtain ⟨N, rfl⟩ : ∃ N : Nat, n = N := ⟨n.toNat, by omega⟩
        exact c61_ok E1 x69 (fun _ _ => rfl) h b hg (by omega) (by omega)
      · cases e
    · cases e
  · cases e)
theorem x61' (h : Heap) (b : Nat) (n x : Int) (hb : h.get b = .cells 1 1 [G x]) (h1 : 1 ≤ n) (h2 : n ≤ 60) : E2 61 [.slice b 0 1 1, G n] h = some (.slice h.size 0 n.toNat n.toNat, [.cells 1 n.toNat (List.replicate n.toNat (G x))], false) := by
  simp [E2, addI, spec61, hb, h1, h2]
theorem knE2 : Kn E2 := ⟨f67, f68, f59, f52, f60, f54, f58, f57, f56, f25, f18, f20, f30, f29, f31, f24, f22, f28, f23, f55, f27, f55r⟩
noncomputable def E3 : CallF := addV (addV E2 66 spec66) 48 spec66
theorem t3 : Sound Go.Proofs.Try.prog E3 := Sound.addV2 follows ok (Sound.addV follows ok t2 (by decide) (fun args v h => by
  unfold spec66 at h
  split at h
  · split at h
    · rename_i hh
      simp only [Option.some.injEq] at h; subst h; exact c66_ok E2 knE2 (fun _ _ => rfl) _ _ _ _ _ _ hh
    · cases h
  · cases h)) t2 (by decide) (fun args v h => by
  unfold spec66 at h
  split at h
  · split at h
    · rename_i hh
      simp only [Option.some.injEq] at h; subst h; exact c48_ok E2 (fun _ _ => rfl) _ _ _ _ _ _ hh
    · cases h
  · cases h)
theorem x66 (h : Heap) (lot n c r m d : Int) (h1 : 1 ≤ lot) (h2 : lot ≤ 36) : E3 66 [G lot, .agg [G n, G c, G r, G m, G d]] h = some (.bool (decide (dblOk lot n c r m d)), [], false) := by simp [E3, AEv.addV, spec66, h1, h2]
theorem x48 (h : Heap) (lot n c r m d : Int) (h1 : 1 ≤ lot) (h2 : lot ≤ 36) : E3 48 [G lot, .agg [G n, G c, G r, G m, G d]] h = some (.bool (decide (dblOk lot n c r m d)), [], false) := by simp [E3, AEv.addV, spec66, h1, h2]

theorem knE3 : Kn E3 := ⟨f67, f68, f59, f52, f60, f54, f58, f57, f56, f25, f18, f20, f30, f29, f31, f24, f22, f28, f23, f55, f27, f55r⟩
noncomputable def E4 : CallF := addV (addV E3 46 spec46) 50 spec50
theorem t4 : Sound Go.Proofs.Try.prog E4 := Sound.addV2 follows ok (Sound.addV follows ok t3 (by decide) (fun args v h => by
  unfold spec46 at h
  split at h
  · simp only [Option.some.injEq] at h; subst h
    split
    · rename_i hh; exact c46_good E3 knE3 x66 (fun _ _ => rfl) (hd_ok hh)
    · rename_i hh; exact c46_bad E3 knE3 x66 (fun _ _ => rfl) hh
  · cases h)) t3 (by decide) (fun args v h => by
  unfold spec50 at h
  split at h
  · split at h
    · rename_i hh
      simp only [Option.some.injEq] at h; subst h; exact c50_ok E3 knE3 (fun _ _ => rfl) (hd_ok hh)
    · cases h
  · cases h)
theorem x46 (h : Heap) (lot bad n c r m d : Int) : E4 46 [G lot, G bad, .agg [G n, G c, G r, G m, G d]] h = some (if lotOk lot bad ∧ dblOk lot n c r m d then .tup [fr (dblA lot bad n c r m d) (ofZ lot bad), fr (dblP lot bad n c r m d) (ofZ lot bad), G 0] else .tup [.agg [G 0, G 0], .agg [G 0, G 0], G 2], [], false) := by
  by_cases hh : lotOk lot bad ∧ dblOk lot n c r m d <;> simp [E4, AEv.addV, spec46, hh, fr]
theorem x50 (h : Heap) (lot bad n c r m d : Int) (hh : lotOk lot bad ∧ dblOk lot n c r m d) : E4 50 [G lot, G bad, .agg [G n, G c, G r, G m, G d]] h = some (.tup [G (dblA lot bad n c r m d), G (dblP lot bad n c r m d)], [], false) := by simp [E4, AEv.addV, spec50, hh]
theorem knE4 : Kn E4 := ⟨f67, f68, f59, f52, f60, f54, f58, f57, f56, f25, f18, f20, f30, f29, f31, f24, f22, f28, f23, f55, f27, f55r⟩
theorem x61 (h : Heap) (b : Nat) (n x : Int) (hb : h.get b = .cells 1 1 [G x]) (h1 : 1 ≤ n) (h2 : n ≤ 60) : E4 61 [.slice b 0 1 1, G n] h = some (.slice h.size 0 n.toNat n.toNat, [.cells 1 n.toNat (List.replicate n.toNat (G x))], false) := x61' h b n x hb h1 h2
noncomputable def E5 : CallF := addI E4 47 spec47
noncomputable def E6 : CallF := addI E5 65 spec65
noncomputable def E7 : CallF := addI E6 40 spec40
noncomputable def E8 : CallF := addI E7 49 spec49
theorem hm_ok {lot n c r m d : Int} (h : lotOk lot 0 ∧ dblOk lot n c r m d) : HM lot n c r m d := ⟨h.1.1, h.2.1, h.2.2.1, h.2.2.2.1, h.2.2.2.2.1, h.2.2.2.2.2⟩
theorem t5 : Sound Go.Proofs.Try.prog E5 := Sound.add follows ok t4 (by decide) (fun args h x e => by
  unfold spec47 at e
  split at e
  · split at e
    · rename_i hh
      simp only [Option.some.injEq] at e; subst e; exact c47_good E4 knE4 x61 x66 (fun _ _ => rfl) h (hm_ok hh)
    · rename_i hh
      simp only [Option.some.injEq] at e; subst e; exact c47_bad E4 knE4 x66 (fun _ _ => rfl) h hh
  · cases e)
theorem t6 : Sound Go.Proofs.Try.prog E6 := Sound.add follows ok t5 (by decide) (fun args h x e => by
  unfold spec65 at e
  split at e
  · rename_i bA nA vA bR nR vR i k
    split at e
    · rename_i v1 c1 v2 c2 hg1 hg2
      split at e
      · rename_i hh
        obtain ⟨rfl, rfl, h1, h2, h3, h4⟩ := hh
        split at e
        · rename_i a r x1 x2
          simp only [Option.some.injEq] at e; subst e
          obtain ⟨j, rfl⟩ : ∃ j : Nat, i = ((j + 1 : Nat) : Int) := ⟨(i - 1).toNat, by omega⟩
          rw [show (((j + 1 : Nat) : Int) - 1).toNat = j by omega] at x1 x2
          exact c65_ok E5 (fun _ _ => rfl) h (by omega) (by omega) (by omega) hg1 hg2 x1 x2
        · cases e
      · cases e
    · cases e
  · cases e)
theorem t7 : Sound Go.Proofs.Try.prog E7 := Sound.add follows ok t6 (by decide) (fun args h x e => by
  unfold spec40 at e
  split at e
  · rename_i hh
    obtain ⟨lot, A, R, N, bA, bR, rfl, hF, h1, h2⟩ := hh
    simp only [Option.some.injEq] at e; subst e; exact c40_ok E6 (fun _ _ => rfl) h hF h1 h2
  · cases e)
theorem x65 : K65 E7 := fun h bA bR nA vA nR vR j k a r c1 c2 h2 h3 h4 g1 g2 x1 x2 => by
  have hj : (((j + 1 : Nat) : Int) - 1).toNat = j := by omega
  have : E6 65 [.agg [.slice bA 0 nA vA, .slice bR 0 nR vR], G ((j + 1 : Nat) : Int), G k] h = some (G (decZ a r k), [], false) := by
    simp only [E6, addI, if_true, spec65, g1, g2, hj, x1, x2]
    rw [if_pos ⟨trivial, trivial, by omega, by omega, by omega, by omega⟩]
  exact this
theorem t8 : Sound Go.Proofs.Try.prog E8 := Sound.add follows ok t7 (by decide) (fun args h x e => by
  unfold spec49 at e
  split at e
  · rename_i hh
    obtain ⟨n, c, r, m, d, N, bA, bR, rfl, hm, h1, h2⟩ := hh
    simp only [Option.some.injEq] at e; subst e; exact c49_ok E7 x65 (fun _ _ => rfl) hm h h1 h2
  · cases e)
structure Kn7 (J : CallF) : Prop extends Kn J where
  k48 : ∀ (h : Heap) (lot n c r m d : Int) (h1 : 1 ≤ lot) (h2 : lot ≤ 36), J 48 [G lot, .agg [G n, G c, G r, G m, G d]] h = some (.bool (decide (dblOk lot n c r m d)), [], false)
  k46 : ∀ (h : Heap) (lot bad n c r m d : Int), J 46 [G lot, G bad, .agg [G n, G c, G r, G m, G d]] h = some (if lotOk lot bad ∧ dblOk lot n c r m d then .tup [fr (dblA lot bad n c r m d) (ofZ lot bad), fr (dblP lot bad n c r m d) (ofZ lot bad), G 0] else .tup [.agg [G 0, G 0], .agg [G 0, G 0], G 2], [], false)
  k50 : ∀ (h : Heap) (lot bad n c r m d : Int) (hh : lotOk lot bad ∧ dblOk lot n c r m d), J 50 [G lot, G bad, .agg [G n, G c, G r, G m, G d]] h = some (.tup [G (dblA lot bad n c r m d), G (dblP lot bad n c r m d)], [], false)
  k47 : ∀ (h : Heap) (lot n c r m d : Int) (hh : lotOk lot 0 ∧ dblOk lot n c r m d), J 47 [G lot, .agg [G n, G c, G r, G m, G d]] h = some (.tup [.agg [.slice (h.size + 3) 0 (n + m).toNat (n + m).toNat, .slice (h.size + 5) 0 (n + m).toNat (n + m).toNat], G 0], own47 h.size n c r m d, false)
  k47n : ∀ (h : Heap) (lot n c r m d : Int) (hh : ¬ (lotOk lot 0 ∧ dblOk lot n c r m d)), J 47 [G lot, .agg [G n, G c, G r, G m, G d]] h = some (.tup [.agg [.nils, .nils], G 2], [], false)
  k40 : ∀ (h : Heap) (lot : Int) (A R : Nat → Int) (N bA bR : Nat) (hF : FitH lot A R N) (h1 : h.get bA = .cells 1 N (zs A N)) (h2 : h.get bR = .cells 1 N (zs R N)), J 40 [G lot, .agg [.slice bA 0 N N, .slice bR 0 N N]] h = some (.bool true, [], false)
  k49 : ∀ (h : Heap) (n c r m d : Int) (N bA bR : Nat) (hm : HMs n c r m d N) (h1 : h.get bA = .cells 1 N (zs (mA n c m d) N)) (h2 : h.get bR = .cells 1 N (zs (mR n r m d) N)), J 49 [.agg [G n, G c, G r, G m, G d], .agg [.slice bA 0 N N, .slice bR 0 N N]] h = some (.bool true, [], false)
theorem knE8 : Kn E8 := ⟨f67, f68, f59, f52, f60, f54, f58, f57, f56, f25, f18, f20, f30, f29, f31, f24, f22, f28, f23, f55, f27, f55r⟩
theorem x47 (h : Heap) (lot n c r m d : Int) (hh : lotOk lot 0 ∧ dblOk lot n c r m d) : E8 47 [G lot, .agg [G n, G c, G r, G m, G d]] h = some (.tup [.agg [.slice (h.size + 3) 0 (n + m).toNat (n + m).toNat, .slice (h.size + 5) 0 (n + m).toNat (n + m).toNat], G 0], own47 h.size n c r m d, false) := by
  have : E5 47 [G lot, .agg [G n, G c, G r, G m, G d]] h = some (.tup [.agg [.slice (h.size + 3) 0 (n + m).toNat (n + m).toNat, .slice (h.size + 5) 0 (n + m).toNat (n + m).toNat], G 0], own47 h.size n c r m d, false) := by
    simp only [E5, addI, if_true, spec47, if_pos hh]
  exact this
theorem x47n (h : Heap) (lot n c r m d : Int) (hh : ¬ (lotOk lot 0 ∧ dblOk lot n c r m d)) : E8 47 [G lot, .agg [G n, G c, G r, G m, G d]] h = some (.tup [.agg [.nils, .nils], G 2], [], false) := by
  have : E5 47 [G lot, .agg [G n, G c, G r, G m, G d]] h = some (.tup [.agg [.nils, .nils], G 2], [], false) := by
    simp only [E5, addI, if_true, spec47, if_neg hh]
  exact this
theorem x40 (h : Heap) (lot : Int) (A R : Nat → Int) (N bA bR : Nat) (hF : FitH lot A R N) (h1 : h.get bA = .cells 1 N (zs A N)) (h2 : h.get bR = .cells 1 N (zs R N)) : E8 40 [G lot, .agg [.slice bA 0 N N, .slice bR 0 N N]] h = some (.bool true, [], false) := by
  have : E7 40 [G lot, .agg [.slice bA 0 N N, .slice bR 0 N N]] h = some (.bool true, [], false) := by
    simp only [E7, addI, if_true, spec40]
    exact if_pos ⟨lot, A, R, N, bA, bR, rfl, hF, h1, h2⟩
  exact this
theorem x49 (h : Heap) (n c r m d : Int) (N bA bR : Nat) (hm : HMs n c r m d N) (h1 : h.get bA = .cells 1 N (zs (mA n c m d) N)) (h2 : h.get bR = .cells 1 N (zs (mR n r m d) N)) : E8 49 [.agg [G n, G c, G r, G m, G d], .agg [.slice bA 0 N N, .slice bR 0 N N]] h = some (.bool true, [], false) := by
  simp only [E8, addI, if_true, spec49]
  exact if_pos ⟨n, c, r, m, d, N, bA, bR, rfl, hm, h1, h2⟩
theorem knE8' : Kn7 E8 := ⟨knE8, x48, x46, x50, x47, x47n, x40, x49⟩

section
variable {lot bad n c r m d u1 v1 u2 v2 e : Int} {N b10 : Nat}

theorem v15_1 (J : CallF) (hD : ∀ h, J 46 [G lot, G bad, .agg [G n, G c, G r, G m, G d]] h = some (.tup [.agg [G u1, G v1], .agg [G u2, G v2], G e], [], false)) : Tr tbl J (.seq c15_o0 c15_o1) (fun s h => s = T.set (T.set (T.set .leaf [] (G lot)) [false] (G bad)) [true] (.agg [G n, G c, G r, G m, G d]) ∧ h = ⟨e0.get, 0, []⟩) .normal (fun s h => s.get [] = G lot ∧ s.get [false] = G bad ∧ s.get [false, true] = .ptr 0 0 5 ∧ s.get [false, false, false] = .ptr 1 0 2 ∧ s.get [true, false, false] = .ptr 2 0 2 ∧ s.get [false, true, false] = G e ∧ h = ⟨e0.get, 0, [.cells 0 5 [G n, G c, G r, G m, G d], .cells 0 2 [G u1, G v1], .cells 0 2 [G u2, G v2]]⟩) := by
  have t : Tr tbl J ((.seq c15_o0 c15_o1)) (fun s h => s = T.set (T.set (T.set .leaf [] (G lot)) [false] (G bad)) [true] (.agg [G n, G c, G r, G m, G d]) ∧ h = ⟨e0.get, 0, []⟩) .normal (fun s h => s.get [] = G lot ∧ s.get [false] = G bad ∧ s.get [false, true] = .ptr 0 0 5 ∧ s.get [false, false, false] = .ptr 1 0 2 ∧ s.get [true, false, false] = .ptr 2 0 2 ∧ s.get [false, true, false] = G e ∧ h = ⟨e0.get, 0, [.cells 0 5 [G n, G c, G r, G m, G d], .cells 0 2 [G u1, G v1], .cells 0 2 [G u2, G v2]]⟩) := Tr.region fun s h hp => by
    obtain ⟨rfl, rfl⟩ := hp
    simp (disch := first | omega | exact getEq rfl | exact getO0 | exact Nat.le_of_ble_eq_true rfl) [c15_o0, c15_o1, came_some, goI, List.getElem?_cons_zero, List.getElem?_cons_succ, kn, keep, frameOf, Heap.size, Heap.get, Eff.app, Heap.setOwn, putAt, AV.cells, fillA, loadA, takeA, mk, Eff.isAll, Eff.isNone, Eff.commutes, Eff.spares, okPair, apart, eqAgg, fits, LK.fits, allEq, aveq, eqk, mmA, beqT, wrapI, idxI, tdivI, tmodI, decT, decF, ibT, ibF, inT, inF, evScope_c, if_pos, if_neg, hD]
  exact t

theorem v15_2g (J : CallF) (K : Kn7 J) (hh : lotOk lot 0 ∧ dblOk lot n c r m d) (hN : (n + m).toNat = N) : Tr tbl J c15_o2 (fun s h => s.get [] = G lot ∧ s.get [false] = G bad ∧ s.get [false, true] = .ptr 0 0 5 ∧ s.get [false, false, false] = .ptr 1 0 2 ∧ s.get [true, false, false] = .ptr 2 0 2 ∧ s.get [false, true, false] = G e ∧ h = ⟨e0.get, 0, [.cells 0 5 [G n, G c, G r, G m, G d], .cells 0 2 [G u1, G v1], .cells 0 2 [G u2, G v2]]⟩) .normal (fun s h => s.get [] = G lot ∧ s.get [false] = G bad ∧ s.get [false, true] = .ptr 0 0 5 ∧ s.get [false, false, false] = .ptr 1 0 2 ∧ s.get [true, false, false] = .ptr 2 0 2 ∧ s.get [false, true, false] = G e ∧ s.get [true, true, false] = .ptr 10 0 2 ∧ s.get [false, false, true] = G 0 ∧ h = ⟨e0.get, 0, [.cells 0 5 [G n, G c, G r, G m, G d], .cells 0 2 [G u1, G v1], .cells 0 2 [G u2, G v2], .cells 0 5 [G n, G c, G r, G m, G d], st47 3 N, .cells 1 1 [G (-1)], .cells 1 N (zs (mA n c m d) N), .cells 1 1 [G (n + m + 1)], .cells 1 N (zs (mR n r m d) N), st47 3 N, .cells 0 2 [.slice 6 0 N N, .slice 8 0 N N]]⟩) := by
  have k := fun h => K.k47 h lot n c r m d hh
  rw [hN] at k
  have ho : own47 3 n c r m d = [.cells 0 5 [G n, G c, G r, G m, G d], st47 3 N, .cells 1 1 [G (-1)], .cells 1 N (zs (mA n c m d) N), .cells 1 1 [G (n + m + 1)], .cells 1 N (zs (mR n r m d) N), st47 3 N] := by unfold own47; rw [hN]
  generalize zs (mA n c m d) N = zA at *
  generalize zs (mR n r m d) N = zR at *
  have t : Tr tbl J (c15_o2) (fun s h => s.get [] = G lot ∧ s.get [false] = G bad ∧ s.get [false, true] = .ptr 0 0 5 ∧ s.get [false, false, false] = .ptr 1 0 2 ∧ s.get [true, false, false] = .ptr 2 0 2 ∧ s.get [false, true, false] = G e ∧ h = ⟨e0.get, 0, [.cells 0 5 [G n, G c, G r, G m, G d], .cells 0 2 [G u1, G v1], .cells 0 2 [G u2, G v2]]⟩) .normal (fun s h => s.get [] = G lot ∧ s.get [false] = G bad ∧ s.get [false, true] = .ptr 0 0 5 ∧ s.get [false, false, false] = .ptr 1 0 2 ∧ s.get [true, false, false] = .ptr 2 0 2 ∧ s.get [false, true, false] = G e ∧ s.get [true, true, false] = .ptr 10 0 2 ∧ s.get [false, false, true] = G 0 ∧ h = ⟨e0.get, 0, [.cells 0 5 [G n, G c, G r, G m, G d], .cells 0 2 [G u1, G v1], .cells 0 2 [G u2, G v2], .cells 0 5 [G n, G c, G r, G m, G d], st47 3 N, .cells 1 1 [G (-1)], .cells 1 N zA, .cells 1 1 [G (n + m + 1)], .cells 1 N zR, st47 3 N, .cells 0 2 [.slice 6 0 N N, .slice 8 0 N N]]⟩) := Tr.region fun s h hp => by
    obtain ⟨g0, g1, g2, g3, g4, g5, rfl⟩ := hp
    simp (disch := first | omega | exact getEq rfl | exact getO0 | exact Nat.le_of_ble_eq_true rfl) [c15_o2, came_some, goI, List.getElem?_cons_zero, List.getElem?_cons_succ, kn, keep, frameOf, Heap.size, Heap.get, Eff.app, Heap.setOwn, putAt, AV.cells, fillA, loadA, takeA, mk, Eff.isAll, Eff.isNone, Eff.commutes, Eff.spares, okPair, apart, eqAgg, fits, LK.fits, allEq, aveq, eqk, mmA, beqT, wrapI, idxI, tdivI, tmodI, decT, decF, ibT, ibF, inT, inF, evScope_c, if_pos, if_neg, g0, g1, g2, g3, g4, g5, k, ho]
  exact t

theorem v15_2b (J : CallF) (K : Kn7 J) (hh : ¬ (lotOk lot 0 ∧ dblOk lot n c r m d)) : Tr tbl J c15_o2 (fun s h => s.get [] = G lot ∧ s.get [false] = G bad ∧ s.get [false, true] = .ptr 0 0 5 ∧ s.get [false, false, false] = .ptr 1 0 2 ∧ s.get [true, false, false] = .ptr 2 0 2 ∧ s.get [false, true, false] = G e ∧ h = ⟨e0.get, 0, [.cells 0 5 [G n, G c, G r, G m, G d], .cells 0 2 [G u1, G v1], .cells 0 2 [G u2, G v2]]⟩) .normal (fun s h => s.get [] = G lot ∧ s.get [false] = G bad ∧ s.get [false, true] = .ptr 0 0 5 ∧ s.get [false, false, false] = .ptr 1 0 2 ∧ s.get [true, false, false] = .ptr 2 0 2 ∧ s.get [false, true, false] = G e ∧ s.get [true, true, false] = .ptr 3 0 2 ∧ s.get [false, false, true] = G 2 ∧ h = ⟨e0.get, 0, [.cells 0 5 [G n, G c, G r, G m, G d], .cells 0 2 [G u1, G v1], .cells 0 2 [G u2, G v2], .cells 0 2 [.nils, .nils]]⟩) := by
  have k := fun h => K.k47n h lot n c r m d hh
  have t : Tr tbl J (c15_o2) (fun s h => s.get [] = G lot ∧ s.get [false] = G bad ∧ s.get [false, true] = .ptr 0 0 5 ∧ s.get [false, false, false] = .ptr 1 0 2 ∧ s.get [true, false, false] = .ptr 2 0 2 ∧ s.get [false, true, false] = G e ∧ h = ⟨e0.get, 0, [.cells 0 5 [G n, G c, G r, G m, G d], .cells 0 2 [G u1, G v1], .cells 0 2 [G u2, G v2]]⟩) .normal (fun s h => s.get [] = G lot ∧ s.get [false] = G bad ∧ s.get [false, true] = .ptr 0 0 5 ∧ s.get [false, false, false] = .ptr 1 0 2 ∧ s.get [true, false, false] = .ptr 2 0 2 ∧ s.get [false, true, false] = G e ∧ s.get [true, true, false] = .ptr 3 0 2 ∧ s.get [false, false, true] = G 2 ∧ h = ⟨e0.get, 0, [.cells 0 5 [G n, G c, G r, G m, G d], .cells 0 2 [G u1, G v1], .cells 0 2 [G u2, G v2], .cells 0 2 [.nils, .nils]]⟩) := Tr.region fun s h hp => by
    obtain ⟨g0, g1, g2, g3, g4, g5, rfl⟩ := hp
    simp (disch := first | omega | exact getEq rfl | exact getO0 | exact Nat.le_of_ble_eq_true rfl) [c15_o2, came_some, goI, List.getElem?_cons_zero, List.getElem?_cons_succ, kn, keep, frameOf, Heap.size, Heap.get, Eff.app, Heap.setOwn, putAt, AV.cells, fillA, loadA, takeA, mk, Eff.isAll, Eff.isNone, Eff.commutes, Eff.spares, okPair, apart, eqAgg, fits, LK.fits, allEq, aveq, eqk, mmA, beqT, wrapI, idxI, tdivI, tmodI, decT, decF, ibT, ibF, inT, inF, evScope_c, if_pos, if_neg, g0, g1, g2, g3, g4, g5, k]
  exact t

theorem v15_3 (J : CallF) (K : Kn7 J) (H : Heap) (fp : H.get 0 = .cells 0 5 [G n, G c, G r, G m, G d]) (g11 : Int) : Tr tbl J c15_o3 (fun s h => s.get [] = G lot ∧ s.get [false] = G bad ∧ s.get [false, true] = .ptr 0 0 5 ∧ s.get [false, false, false] = .ptr 1 0 2 ∧ s.get [true, false, false] = .ptr 2 0 2 ∧ s.get [false, true, false] = G e ∧ s.get [true, true, false] = .ptr b10 0 2 ∧ s.get [false, false, true] = G g11 ∧ h = H) .normal (fun s h => s.get [] = G lot ∧ s.get [false] = G bad ∧ s.get [false, true] = .ptr 0 0 5 ∧ s.get [false, false, false] = .ptr 1 0 2 ∧ s.get [true, false, false] = .ptr 2 0 2 ∧ s.get [false, true, false] = G e ∧ s.get [true, true, false] = .ptr b10 0 2 ∧ s.get [false, false, true] = G g11 ∧ s.get [true, false, true] = .bool (decide (lotOk lot 0 ∧ dblOk lot n c r m d)) ∧ h = H) := by
  by_cases h1 : 1 ≤ lot
  · by_cases h2 : lot ≤ 36
    · have hl : lotOk lot 0 := ⟨⟨h1, h2⟩, by omega, by omega⟩
      have ed : decide (lotOk lot 0 ∧ dblOk lot n c r m d) = decide (dblOk lot n c r m d) := by simp [hl]
      rw [ed]
      have t : Tr tbl J (c15_o3) (fun s h => s.get [] = G lot ∧ s.get [false] = G bad ∧ s.get [false, true] = .ptr 0 0 5 ∧ s.get [false, false, false] = .ptr 1 0 2 ∧ s.get [true, false, false] = .ptr 2 0 2 ∧ s.get [false, true, false] = G e ∧ s.get [true, true, false] = .ptr b10 0 2 ∧ s.get [false, false, true] = G g11 ∧ h = H) .normal (fun s h => s.get [] = G lot ∧ s.get [false] = G bad ∧ s.get [false, true] = .ptr 0 0 5 ∧ s.get [false, false, false] = .ptr 1 0 2 ∧ s.get [true, false, false] = .ptr 2 0 2 ∧ s.get [false, true, false] = G e ∧ s.get [true, true, false] = .ptr b10 0 2 ∧ s.get [false, false, true] = G g11 ∧ s.get [true, false, true] = .bool (decide (dblOk lot n c r m d)) ∧ h = H) := Tr.region fun s h hp => by
        obtain ⟨g0, g1, g2, g3, g4, g5, g6, g7, rfl⟩ := hp
        simp (disch := first | omega | exact getEq rfl | exact getO0 | exact Nat.le_of_ble_eq_true rfl) [c15_o3, came_some, goI, List.getElem?_cons_zero, List.getElem?_cons_succ, kn, keep, app_growP, app_noneP, plus_N, plus_at0, put_plus0, upd_N, upd_size, putAt, AV.cells, fillA, loadA, takeA, mk, Eff.isAll, Eff.isNone, Eff.commutes, Eff.spares, okPair, apart, eqAgg, fits, LK.fits, allEq, aveq, eqk, mmA, beqT, wrapI, idxI, tdivI, tmodI, decT, decF, ibT, ibF, inT, inF, evScope_c, if_pos, if_neg, g0, g1, g2, g3, g4, g5, g6, g7, fp, K.k48, h1, h2]
      exact t
    · have ed : decide (lotOk lot 0 ∧ dblOk lot n c r m d) = false := by simp [lotOk, h2]
      rw [ed]
      have t : Tr tbl J (c15_o3) (fun s h => s.get [] = G lot ∧ s.get [false] = G bad ∧ s.get [false, true] = .ptr 0 0 5 ∧ s.get [false, false, false] = .ptr 1 0 2 ∧ s.get [true, false, false] = .ptr 2 0 2 ∧ s.get [false, true, false] = G e ∧ s.get [true, true, false] = .ptr b10 0 2 ∧ s.get [false, false, true] = G g11 ∧ h = H) .normal (fun s h => s.get [] = G lot ∧ s.get [false] = G bad ∧ s.get [false, true] = .ptr 0 0 5 ∧ s.get [false, false, false] = .ptr 1 0 2 ∧ s.get [true, false, false] = .ptr 2 0 2 ∧ s.get [false, true, false] = G e ∧ s.get [true, true, false] = .ptr b10 0 2 ∧ s.get [false, false, true] = G g11 ∧ s.get [true, false, true] = .bool false ∧ h = H) := Tr.region fun s h hp => by
        obtain ⟨g0, g1, g2, g3, g4, g5, g6, g7, rfl⟩ := hp
        simp (disch := first | omega | exact getEq rfl | exact getO0 | exact Nat.le_of_ble_eq_true rfl) [c15_o3, came_some, goI, List.getElem?_cons_zero, List.getElem?_cons_succ, kn, keep, app_growP, app_noneP, plus_N, plus_at0, put_plus0, upd_N, upd_size, putAt, AV.cells, fillA, loadA, takeA, mk, Eff.isAll, Eff.isNone, Eff.commutes, Eff.spares, okPair, apart, eqAgg, fits, LK.fits, allEq, aveq, eqk, mmA, beqT, wrapI, idxI, tdivI, tmodI, decT, decF, ibT, ibF, inT, inF, evScope_c, if_pos, if_neg, g0, g1, g2, g3, g4, g5, g6, g7, fp, h1, h2]
      exact t
  · have ed : decide (lotOk lot 0 ∧ dblOk lot n c r m d) = false := by simp [lotOk, h1]
    rw [ed]
    have t : Tr tbl J (c15_o3) (fun s h => s.get [] = G lot ∧ s.get [false] = G bad ∧ s.get [false, true] = .ptr 0 0 5 ∧ s.get [false, false, false] = .ptr 1 0 2 ∧ s.get [true, false, false] = .ptr 2 0 2 ∧ s.get [false, true, false] = G e ∧ s.get [true, true, false] = .ptr b10 0 2 ∧ s.get [false, false, true] = G g11 ∧ h = H) .normal (fun s h => s.get [] = G lot ∧ s.get [false] = G bad ∧ s.get [false, true] = .ptr 0 0 5 ∧ s.get [false, false, false] = .ptr 1 0 2 ∧ s.get [true, false, false] = .ptr 2 0 2 ∧ s.get [false, true, false] = G e ∧ s.get [true, true, false] = .ptr b10 0 2 ∧ s.get [false, false, true] = G g11 ∧ s.get [true, false, true] = .bool false ∧ h = H) := Tr.region fun s h hp => by
      obtain ⟨g0, g1, g2, g3, g4, g5, g6, g7, rfl⟩ := hp
      simp (disch := first | omega | exact getEq rfl | exact getO0 | exact Nat.le_of_ble_eq_true rfl) [c15_o3, came_some, goI, List.getElem?_cons_zero, List.getElem?_cons_succ, kn, keep, app_growP, app_noneP, plus_N, plus_at0, put_plus0, upd_N, upd_size, putAt, AV.cells, fillA, loadA, takeA, mk, Eff.isAll, Eff.isNone, Eff.commutes, Eff.spares, okPair, apart, eqAgg, fits, LK.fits, allEq, aveq, eqk, mmA, beqT, wrapI, idxI, tdivI, tmodI, decT, decF, ibT, ibF, inT, inF, evScope_c, if_pos, if_neg, g0, g1, g2, g3, g4, g5, g6, g7, fp, h1]
    exact t

theorem v15_4g (J : CallF) (H : Heap) (fp : H.get 0 = .cells 0 5 [G n, G c, G r, G m, G d]) (fc : H.get b10 = .cells 0 2 [.slice 6 0 N N, .slice 8 0 N N]) (hN : (N : Int) = n + m) (hs : N ≤ 36) (h1 : 1 ≤ n) (h2 : 1 ≤ m) (kF : J 40 [G lot, .agg [.slice 6 0 N N, .slice 8 0 N N]] H = some (.bool true, [], false)) (kM : J 49 [.agg [G n, G c, G r, G m, G d], .agg [.slice 6 0 N N, .slice 8 0 N N]] H = some (.bool true, [], false)) :
    Tr tbl J (.seq c15_o4 (.cond (.s [true, true, false, true, false]) (.seq c15_o5 (.cond (.s [true, false, false, true, true]) (.seq c15_o6 .ret) .skip)) (.seq c15_o7 (.cond (.s [false, true, false, false, true, false]) (.seq c15_o8 .ret) .skip)))) (fun s h => s.get [] = G lot ∧ s.get [false] = G bad ∧ s.get [false, true] = .ptr 0 0 5 ∧ s.get [false, false, false] = .ptr 1 0 2 ∧ s.get [true, false, false] = .ptr 2 0 2 ∧ s.get [false, true, false] = G e ∧ s.get [true, true, false] = .ptr b10 0 2 ∧ s.get [false, false, true] = G 0 ∧ s.get [true, false, true] = .bool true ∧ h = H) .normal (fun s h => s.get [] = G lot ∧ s.get [false] = G bad ∧ s.get [false, true] = .ptr 0 0 5 ∧ s.get [false, false, false] = .ptr 1 0 2 ∧ s.get [true, false, false] = .ptr 2 0 2 ∧ s.get [false, true, false] = G e ∧ s.get [true, false, true] = .bool true ∧ h = H) := by
  have t : Tr tbl J ((.seq c15_o4 (.cond (.s [true, true, false, true, false]) (.seq c15_o5 (.cond (.s [true, false, false, true, true]) (.seq c15_o6 .ret) .skip)) (.seq c15_o7 (.cond (.s [false, true, false, false, true, false]) (.seq c15_o8 .ret) .skip))))) (fun s h => s.get [] = G lot ∧ s.get [false] = G bad ∧ s.get [false, true] = .ptr 0 0 5 ∧ s.get [false, false, false] = .ptr 1 0 2 ∧ s.get [true, false, false] = .ptr 2 0 2 ∧ s.get [false, true, false] = G e ∧ s.get [true, true, false] = .ptr b10 0 2 ∧ s.get [false, false, true] = G 0 ∧ s.get [true, false, true] = .bool true ∧ h = H) .normal (fun s h => s.get [] = G lot ∧ s.get [false] = G bad ∧ s.get [false, true] = .ptr 0 0 5 ∧ s.get [false, false, false] = .ptr 1 0 2 ∧ s.get [true, false, false] = .ptr 2 0 2 ∧ s.get [false, true, false] = G e ∧ s.get [true, false, true] = .bool true ∧ h = H) := Tr.region fun s h hp => by
    obtain ⟨g0, g1, g2, g3, g4, g5, g6, g7, g8, rfl⟩ := hp
    simp (disch := first | omega | exact getEq rfl | exact getO0 | exact Nat.le_of_ble_eq_true rfl) [c15_o4, c15_o7, came_some, goI, List.getElem?_cons_zero, List.getElem?_cons_succ, kn, keep, app_growP, app_noneP, plus_N, plus_at0, put_plus0, upd_N, upd_size, putAt, AV.cells, fillA, loadA, takeA, mk, Eff.isAll, Eff.isNone, Eff.commutes, Eff.spares, okPair, apart, eqAgg, fits, LK.fits, allEq, aveq, eqk, mmA, beqT, wrapI, idxI, tdivI, tmodI, decT, decF, ibT, ibF, inT, inF, evScope_c, if_pos, if_neg, g0, g1, g2, g3, g4, g5, g6, g7, g8, fp, fc, kF, kM, hN]
  exact t

theorem v15_4b (J : CallF) (H : Heap) (fc : H.get b10 = .cells 0 2 [.nils, .nils]) : Tr tbl J (.seq c15_o4 (.cond (.s [true, true, false, true, false]) (.seq c15_o5 (.cond (.s [true, false, false, true, true]) (.seq c15_o6 .ret) .skip)) (.seq c15_o7 (.cond (.s [false, true, false, false, true, false]) (.seq c15_o8 .ret) .skip)))) (fun s h => s.get [] = G lot ∧ s.get [false] = G bad ∧ s.get [false, true] = .ptr 0 0 5 ∧ s.get [false, false, false] = .ptr 1 0 2 ∧ s.get [true, false, false] = .ptr 2 0 2 ∧ s.get [false, true, false] = G e ∧ s.get [true, true, false] = .ptr b10 0 2 ∧ s.get [false, false, true] = G 2 ∧ s.get [true, false, true] = .bool false ∧ h = H) .normal (fun s h => s.get [] = G lot ∧ s.get [false] = G bad ∧ s.get [false, true] = .ptr 0 0 5 ∧ s.get [false, false, false] = .ptr 1 0 2 ∧ s.get [true, false, false] = .ptr 2 0 2 ∧ s.get [false, true, false] = G e ∧ s.get [true, false, true] = .bool false ∧ h = H) := by
  have t : Tr tbl J ((.seq c15_o4 (.cond (.s [true, true, false, true, false]) (.seq c15_o5 (.cond (.s [true, false, false, true, true]) (.seq c15_o6 .ret) .skip)) (.seq c15_o7 (.cond (.s [false, true, false, false, true, false]) (.seq c15_o8 .ret) .skip))))) (fun s h => s.get [] = G lot ∧ s.get [false] = G bad ∧ s.get [false, true] = .ptr 0 0 5 ∧ s.get [false, false, false] = .ptr 1 0 2 ∧ s.get [true, false, false] = .ptr 2 0 2 ∧ s.get [false, true, false] = G e ∧ s.get [true, true, false] = .ptr b10 0 2 ∧ s.get [false, false, true] = G 2 ∧ s.get [true, false, true] = .bool false ∧ h = H) .normal (fun s h => s.get [] = G lot ∧ s.get [false] = G bad ∧ s.get [false, true] = .ptr 0 0 5 ∧ s.get [false, false, false] = .ptr 1 0 2 ∧ s.get [true, false, false] = .ptr 2 0 2 ∧ s.get [false, true, false] = G e ∧ s.get [true, false, true] = .bool false ∧ h = H) := Tr.region fun s h hp => by
    obtain ⟨g0, g1, g2, g3, g4, g5, g6, g7, g8, rfl⟩ := hp
    simp (disch := first | omega | exact getEq rfl | exact getO0 | exact Nat.le_of_ble_eq_true rfl) [c15_o4, c15_o5, came_some, goI, List.getElem?_cons_zero, List.getElem?_cons_succ, kn, keep, app_growP, app_noneP, plus_N, plus_at0, put_plus0, upd_N, upd_size, putAt, AV.cells, fillA, loadA, takeA, mk, Eff.isAll, Eff.isNone, Eff.commutes, Eff.spares, okPair, apart, eqAgg, fits, LK.fits, allEq, aveq, eqk, mmA, beqT, wrapI, idxI, tdivI, tmodI, decT, decF, ibT, ibF, inT, inF, evScope_c, if_pos, if_neg, g0, g1, g2, g3, g4, g5, g6, g7, g8, fc]
  exact t

theorem v15_9b (J : CallF) (K : Kn7 J) (H : Heap) (f1 : H.get 1 = .cells 0 2 [G 0, G 0]) (f2 : H.get 2 = .cells 0 2 [G 0, G 0]) (V : Bool) (hV : V = true → ¬ lotOk lot bad) : Tr tbl J (.seq c15_o9 (.cond (.s [false, true, false, true, true, false]) (.seq c15_o10 .ret) .skip)) (fun s h => s.get [] = G lot ∧ s.get [false] = G bad ∧ s.get [false, true] = .ptr 0 0 5 ∧ s.get [false, false, false] = .ptr 1 0 2 ∧ s.get [true, false, false] = .ptr 2 0 2 ∧ s.get [false, true, false] = G 2 ∧ s.get [true, false, true] = .bool V ∧ h = H) .ret (fun s h => s.get [true, true] = .bool true) := by
  cases V
  ·
    have t : Tr tbl J ((.seq c15_o9 (.cond (.s [false, true, false, true, true, false]) (.seq c15_o10 .ret) .skip))) (fun s h => s.get [] = G lot ∧ s.get [false] = G bad ∧ s.get [false, true] = .ptr 0 0 5 ∧ s.get [false, false, false] = .ptr 1 0 2 ∧ s.get [true, false, false] = .ptr 2 0 2 ∧ s.get [false, true, false] = G 2 ∧ s.get [true, false, true] = .bool false ∧ h = H) .ret (fun s h => s.get [true, true] = .bool true) := Tr.region fun s h hp => by
      obtain ⟨g0, g1, g2, g3, g4, g5, g6, rfl⟩ := hp
      simp (disch := first | omega | exact getEq rfl | exact getO0 | exact Nat.le_of_ble_eq_true rfl) [c15_o9, c15_o10, came_some, goI, List.getElem?_cons_zero, List.getElem?_cons_succ, kn, keep, app_growP, app_noneP, plus_N, plus_at0, put_plus0, upd_N, upd_size, putAt, AV.cells, fillA, loadA, takeA, mk, Eff.isAll, Eff.isNone, Eff.commutes, Eff.spares, okPair, apart, eqAgg, fits, LK.fits, allEq, aveq, eqk, mmA, beqT, wrapI, idxI, tdivI, tmodI, decT, decF, ibT, ibF, inT, inF, evScope_c, if_pos, if_neg, g0, g1, g2, g3, g4, g5, g6, f1, f2, K.k20]
    exact t
  · have hl := hV rfl
    have t : Tr tbl J ((.seq c15_o9 (.cond (.s [false, true, false, true, true, false]) (.seq c15_o10 .ret) .skip))) (fun s h => s.get [] = G lot ∧ s.get [false] = G bad ∧ s.get [false, true] = .ptr 0 0 5 ∧ s.get [false, false, false] = .ptr 1 0 2 ∧ s.get [true, false, false] = .ptr 2 0 2 ∧ s.get [false, true, false] = G 2 ∧ s.get [true, false, true] = .bool true ∧ h = H) .ret (fun s h => s.get [true, true] = .bool true) := Tr.region fun s h hp => by
      obtain ⟨g0, g1, g2, g3, g4, g5, g6, rfl⟩ := hp
      simp (disch := first | omega | exact getEq rfl | exact getO0 | exact Nat.le_of_ble_eq_true rfl) [c15_o9, c15_o10, came_some, goI, List.getElem?_cons_zero, List.getElem?_cons_succ, kn, keep, app_growP, app_noneP, plus_N, plus_at0, put_plus0, upd_N, upd_size, putAt, AV.cells, fillA, loadA, takeA, mk, Eff.isAll, Eff.isNone, Eff.commutes, Eff.spares, okPair, apart, eqAgg, fits, LK.fits, allEq, aveq, eqk, mmA, beqT, wrapI, idxI, tdivI, tmodI, decT, decF, ibT, ibF, inT, inF, evScope_c, if_pos, if_neg, g0, g1, g2, g3, g4, g5, g6, f1, f2, K.k20, K.k18, hl]
    exact t

theorem v15_9g (J : CallF) (K : Kn7 J) (H : Heap) (hl : lotOk lot bad) : Tr tbl J (.seq c15_o9 (.cond (.s [false, true, false, true, true, false]) (.seq c15_o10 .ret) .skip)) (fun s h => s.get [] = G lot ∧ s.get [false] = G bad ∧ s.get [false, true] = .ptr 0 0 5 ∧ s.get [false, false, false] = .ptr 1 0 2 ∧ s.get [true, false, false] = .ptr 2 0 2 ∧ s.get [false, true, false] = G e ∧ s.get [true, false, true] = .bool true ∧ h = H) .normal (fun s h => s.get [] = G lot ∧ s.get [false] = G bad ∧ s.get [false, true] = .ptr 0 0 5 ∧ s.get [false, false, false] = .ptr 1 0 2 ∧ s.get [true, false, false] = .ptr 2 0 2 ∧ s.get [false, true, false] = G e ∧ h = H) := by
  have t : Tr tbl J ((.seq c15_o9 (.cond (.s [false, true, false, true, true, false]) (.seq c15_o10 .ret) .skip))) (fun s h => s.get [] = G lot ∧ s.get [false] = G bad ∧ s.get [false, true] = .ptr 0 0 5 ∧ s.get [false, false, false] = .ptr 1 0 2 ∧ s.get [true, false, false] = .ptr 2 0 2 ∧ s.get [false, true, false] = G e ∧ s.get [true, false, true] = .bool true ∧ h = H) .normal (fun s h => s.get [] = G lot ∧ s.get [false] = G bad ∧ s.get [false, true] = .ptr 0 0 5 ∧ s.get [false, false, false] = .ptr 1 0 2 ∧ s.get [true, false, false] = .ptr 2 0 2 ∧ s.get [false, true, false] = G e ∧ h = H) := Tr.region fun s h hp => by
    obtain ⟨g0, g1, g2, g3, g4, g5, g6, rfl⟩ := hp
    simp (disch := first | omega | exact getEq rfl | exact getO0 | exact Nat.le_of_ble_eq_true rfl) [c15_o9, came_some, goI, List.getElem?_cons_zero, List.getElem?_cons_succ, kn, keep, app_growP, app_noneP, plus_N, plus_at0, put_plus0, upd_N, upd_size, putAt, AV.cells, fillA, loadA, takeA, mk, Eff.isAll, Eff.isNone, Eff.commutes, Eff.spares, okPair, apart, eqAgg, fits, LK.fits, allEq, aveq, eqk, mmA, beqT, wrapI, idxI, tdivI, tmodI, decT, decF, ibT, ibF, inT, inF, evScope_c, if_pos, if_neg, g0, g1, g2, g3, g4, g5, g6, K.k18, hl]
  exact t

theorem v15_end (J : CallF) (K : Kn7 J) (H : Heap) (fp : H.get 0 = .cells 0 5 [G n, G c, G r, G m, G d]) (f1 : H.get 1 = .cells 0 2 [G u1, G v1]) (f2 : H.get 2 = .cells 0 2 [G u2, G v2]) (hh : lotOk lot bad ∧ dblOk lot n c r m d) (q1 : fr (dblA lot bad n c r m d) (ofZ lot bad) = .agg [G u1, G v1]) (q2 : fr (dblP lot bad n c r m d) (ofZ lot bad) = .agg [G u2, G v2]) :
    Tr tbl J (.seq c15_o11 (.seq c15_o12 (.seq c15_o13 .ret))) (fun s h => s.get [] = G lot ∧ s.get [false] = G bad ∧ s.get [false, true] = .ptr 0 0 5 ∧ s.get [false, false, false] = .ptr 1 0 2 ∧ s.get [true, false, false] = .ptr 2 0 2 ∧ s.get [false, true, false] = G 0 ∧ h = H) .ret (fun s h => s.get [true, true] = .bool true) := by
  have bd := dblA_le (hd_ok hh)
  have hl := hh.1.1
  have k := fun h => K.k50 h lot bad n c r m d hh
  generalize dblA lot bad n c r m d = A at *
  generalize dblP lot bad n c r m d = P at *
  have t : Tr tbl J ((.seq c15_o11 (.seq c15_o12 (.seq c15_o13 .ret)))) (fun s h => s.get [] = G lot ∧ s.get [false] = G bad ∧ s.get [false, true] = .ptr 0 0 5 ∧ s.get [false, false, false] = .ptr 1 0 2 ∧ s.get [true, false, false] = .ptr 2 0 2 ∧ s.get [false, true, false] = G 0 ∧ h = H) .ret (fun s h => s.get [true, true] = .bool true) := Tr.region fun s h hp => by
    obtain ⟨g0, g1, g2, g3, g4, g5, rfl⟩ := hp
    simp (disch := first | omega | exact getEq rfl | exact getO0 | exact Nat.le_of_ble_eq_true rfl) [c15_o11, c15_o12, c15_o13, came_some, goI, List.getElem?_cons_zero, List.getElem?_cons_succ, kn, keep, app_growP, app_noneP, plus_N, plus_at0, put_plus0, upd_N, upd_size, putAt, AV.cells, fillA, loadA, takeA, mk, Eff.isAll, Eff.isNone, Eff.commutes, Eff.spares, okPair, apart, eqAgg, fits, LK.fits, allEq, aveq, eqk, mmA, beqT, wrapI, idxI, tdivI, tmodI, decT, decF, ibT, ibF, inT, inF, evScope_c, if_pos, if_neg, g0, g1, g2, g3, g4, g5, fp, f1, f2, k, q1, q2, K.k29, K.k25, K.k20]
  exact t

theorem fit_m (h : dblOk lot n c r m d) (hl : 1 ≤ lot ∧ lot ≤ 36) (hN : (N : Int) = n + m) : FitH lot (mA n c m d) (mR n r m d) N ∧ HMs n c r m d N := by
  obtain ⟨h3, h4, h5, h6, h7⟩ := h
  refine ⟨⟨by omega, by omega, hl.2, fun i hi => ?_, ?_⟩, ⟨hN, by omega, by omega, by omega, h5, h6, h7⟩⟩
  · unfold mA mR
    split
    · omega
    · split <;> omega
  · have e : (((N - 1 : Nat)) : Int) = n + m - 1 := by omega
    unfold mA mR
    rw [if_pos e, if_pos e]

theorem law15_ok (J : CallF) (K : Kn7 J) (hJ : ∀ a h, J 15 a h = none) (lot bad n c r m d : Int) : CallsTo tbl J 15 [G lot, G bad, .agg [G n, G c, G r, G m, G d]] e0 (.bool true, [], false) := by
  refine Tr.fnv (cf := c15) (e := .ret) (s := T.set (T.set (T.set .leaf [] (G lot)) [false] (G bad)) [true] (.agg [G n, G c, G r, G m, G d])) (by decide) rfl (hJ _ _) rfl rfl rfl (by simp) ?_
  refine Tr.post (Q := (fun s h => s.get [true, true] = .bool true)) (fun s h q => by simp [c15, q]) ?_
  by_cases hv : lotOk lot 0 ∧ dblOk lot n c r m d
  · obtain ⟨N, hN⟩ : ∃ N, (n + m).toNat = N := ⟨_, rfl⟩
    have hdb := hv.2
    have hN' : (N : Int) = n + m := by have := hdb.1; have := hdb.2.1; omega
    obtain ⟨hF, hM⟩ := fit_m hdb hv.1.1 hN'
    have fin : ∀ u1 v1 u2 v2 e : Int, (∀ h, J 46 [G lot, G bad, .agg [G n, G c, G r, G m, G d]] h = some (.tup [.agg [G u1, G v1], .agg [G u2, G v2], G e], [], false)) →
        (∀ H : Heap, H.get 0 = .cells 0 5 [G n, G c, G r, G m, G d] → H.get 1 = .cells 0 2 [G u1, G v1] → H.get 2 = .cells 0 2 [G u2, G v2] → Tr tbl J (.seq (.seq c15_o9 (.cond (.s [false, true, false, true, true, false]) (.seq c15_o10 .ret) .skip)) (.seq c15_o11 (.seq c15_o12 (.seq c15_o13 .ret)))) (fun s h => s.get [] = G lot ∧ s.get [false] = G bad ∧ s.get [false, true] = .ptr 0 0 5 ∧ s.get [false, false, false] = .ptr 1 0 2 ∧ s.get [true, false, false] = .ptr 2 0 2 ∧ s.get [false, true, false] = G e ∧ s.get [true, false, true] = .bool true ∧ h = H) .ret (fun s h => s.get [true, true] = .bool true)) →
        Tr tbl J c15.body (fun s h => s = T.set (T.set (T.set .leaf [] (G lot)) [false] (G bad)) [true] (.agg [G n, G c, G r, G m, G d]) ∧ h = frameOf e0) .ret (fun s h => s.get [true, true] = .bool true) := by
      intro u1 v1 u2 v2 e hD hend
      have t3 := v15_3 (bad := bad) (e := e) (b10 := 10) J K ⟨e0.get, 0, [.cells 0 5 [G n, G c, G r, G m, G d], .cells 0 2 [G u1, G v1], .cells 0 2 [G u2, G v2], .cells 0 5 [G n, G c, G r, G m, G d], st47 3 N, .cells 1 1 [G (-1)], .cells 1 N (zs (mA n c m d) N), .cells 1 1 [G (n + m + 1)], .cells 1 N (zs (mR n r m d) N), st47 3 N, .cells 0 2 [.slice 6 0 N N, .slice 8 0 N N]]⟩ rfl 0 (lot := lot) (n := n) (c := c) (r := r) (m := m) (d := d)
      rw [decide_eq_true hv] at t3
      exact Tr.app2 (v15_1 J hD) (Tr.seq (v15_2g J K hv hN) (Tr.seq t3 (Tr.seq (v15_4g J _ rfl rfl hN' hM.h2 hM.h3 hM.h4 (K.k40 _ lot _ _ N 6 8 hF rfl rfl) (K.k49 _ n c r m d N 6 8 hM rfl rfl)) (hend _ rfl rfl rfl))))
    by_cases hl : lotOk lot bad
    · obtain ⟨u1, v1, q1⟩ : ∃ u v, fr (dblA lot bad n c r m d) (ofZ lot bad) = .agg [G u, G v] := ⟨_, _, rfl⟩
      obtain ⟨u2, v2, q2⟩ : ∃ u v, fr (dblP lot bad n c r m d) (ofZ lot bad) = .agg [G u, G v] := ⟨_, _, rfl⟩
      have hD := fun h => K.k46 h lot bad n c r m d
      rw [if_pos ⟨hl, hdb⟩, q1, q2] at hD
      exact fin u1 v1 u2 v2 0 hD (fun H fp f1 f2 => Tr.seq (v15_9g J K H hl) (v15_end J K H fp f1 f2 ⟨hl, hdb⟩ q1 q2))
    · have hD := fun h => K.k46 h lot bad n c r m d
      rw [if_neg (fun x => hl x.1)] at hD
      exact fin 0 0 0 0 2 hD (fun H fp f1 f2 => Tr.seq_out (v15_9b J K H f1 f2 true (fun _ => hl)) (by simp))
  · have hD := fun h => K.k46 h lot bad n c r m d
    rw [if_neg (fun x => hv ⟨⟨x.1.1, by have := x.1.1; omega⟩, x.2⟩)] at hD
    have t3 := v15_3 (bad := bad) (e := 2) (b10 := 3) J K ⟨e0.get, 0, [.cells 0 5 [G n, G c, G r, G m, G d], .cells 0 2 [G 0, G 0], .cells 0 2 [G 0, G 0], .cells 0 2 [.nils, .nils]]⟩ rfl 2 (lot := lot) (n := n) (c := c) (r := r) (m := m) (d := d)
    rw [decide_eq_false hv] at t3
    exact Tr.app2 (v15_1 J hD) (Tr.seq (v15_2b J K hv) (Tr.seq t3 (Tr.seq (v15_4b J _ rfl) (Tr.seq_out (v15_9b J K _ rfl rfl false (fun x => by cases x)) (by simp)))))
end

theorem doubles_ok (lot bad n c r m d : Int) : CallsTo tbl E8 15 [G lot, G bad, .agg [G n, G c, G r, G m, G d]] e0 (.bool true, [], false) := law15_ok E8 knE8' (fun _ _ => rfl) lot bad n c r m d

end Go.Proofs.Ytlkgpcfhpeilhaa.Ev
