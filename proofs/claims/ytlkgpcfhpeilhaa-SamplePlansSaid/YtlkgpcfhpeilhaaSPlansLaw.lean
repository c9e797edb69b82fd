/-
  SamplePlans answers true at any three ints and two fractions, as the evaluator runs it. No condition.
-/
import Derived.Test.YtlkgpcfhpeilhaaSPlan
set_option linter.unusedVariables false
set_option linter.unusedSimpArgs false
namespace Go.Proofs.Ytlkgpcfhpeilhaa.Ev
open Go Go.AEv

attribute [local simp] evFunc initS evOps_c evTrim_c evSkip_c evExit_c evRet_c evSeq_c evCond_c evBlock_c evDraw_c runOps_n runOps_c exec_n exec_g pure1_c act AOpd.ev T.get T.set T.put evBin evUn forceT_eq forceV_eq forceL_eq evRess evRes one keep runFP_n runFP_c app_none AV.flats AV.flat

section
variable {lot good bad a b c d : Int}
def HL (x y z a b c d : Int) : Heap := ⟨e0.get, 0, [.cells 0 3 [G x, G y, G z], .cells 0 2 [G a, G b], .cells 0 2 [G c, G d]]⟩
abbrev L3i : List Path := [[true, false], [false, true], [false, false, false], [true, false, false], [false, true, false], [true, true, false], [false, false, true], [true, false, true], [false, true, true], [true, true, true]]
abbrev L3o : List Path := [[true, false], [false, true], [false, false, false], [true, false, false], [false, true, false], [true, true, false], [false, false, true], [true, false, true], [false, true, true]]
abbrev P3 (lot good bad a b c d p q r : Int) (i : Nat) : SP := (fun s h => s.get [true, false] = .ptr 1 0 2 ∧ s.get [false, true] = .ptr 2 0 2 ∧ s.get [false, false, false] = G lot ∧ s.get [true, false, false] = G good ∧ s.get [false, true, false] = G bad ∧ s.get [true, true, false] = G p ∧ s.get [false, false, true] = G q ∧ s.get [true, false, true] = G r ∧ s.get [false, true, true] = G i ∧ h = HL lot good bad a b c d)
abbrev P3i (lot good bad a b c d p q r : Int) (i k : Nat) : SP := (fun s h => s.get [true, false] = .ptr 1 0 2 ∧ s.get [false, true] = .ptr 2 0 2 ∧ s.get [false, false, false] = G lot ∧ s.get [true, false, false] = G good ∧ s.get [false, true, false] = G bad ∧ s.get [true, true, false] = G p ∧ s.get [false, false, true] = G q ∧ s.get [true, false, true] = G r ∧ s.get [false, true, true] = G i ∧ s.get [true, true, true] = G k ∧ h = HL lot good bad a b c d)

theorem law3_end (J : CallF) (p q r : Int) (i : Nat) : Tr tbl J (.trim L3i c3_b0) (P3i lot good bad a b c d p q r i i) (.exit 2) (P3 lot good bad a b c d p q r i) := by
  have t : Tr tbl J ((.trim L3i c3_b0)) (fun s h => s.get [true, false] = .ptr 1 0 2 ∧ s.get [false, true] = .ptr 2 0 2 ∧ s.get [false, false, false] = G lot ∧ s.get [true, false, false] = G good ∧ s.get [false, true, false] = G bad ∧ s.get [true, true, false] = G p ∧ s.get [false, false, true] = G q ∧ s.get [true, false, true] = G r ∧ s.get [false, true, true] = G i ∧ s.get [true, true, true] = G i ∧ h = HL lot good bad a b c d) (.exit 2) (fun s h => s.get [true, false] = .ptr 1 0 2 ∧ s.get [false, true] = .ptr 2 0 2 ∧ s.get [false, false, false] = G lot ∧ s.get [true, false, false] = G good ∧ s.get [false, true, false] = G bad ∧ s.get [true, true, false] = G p ∧ s.get [false, false, true] = G q ∧ s.get [true, false, true] = G r ∧ s.get [false, true, true] = G i ∧ h = HL lot good bad a b c d) := Tr.region fun s h hp => by
    obtain ⟨g0, g1, g2, g3, g4, g5, g6, g7, g8, g9, rfl⟩ := hp
    simp (disch := first | omega | exact getEq rfl) [c3_b0, c3_o8, came_some, List.getElem?_cons_zero, List.getElem?_cons_succ, kn, keep, frameOf, Heap.size, Heap.get, Eff.app, Heap.setOwn, putAt, AV.cells, fillA, loadA, takeA, mk, Eff.isAll, Eff.isNone, Eff.commutes, Eff.spares, okPair, apart, eqAgg, fits, LK.fits, allEq, aveq, eqk, mmA, beqT, wrapI, idxI, tdivI, tmodI, decT, decF, ibT, ibF, evScope_c, if_pos, if_neg, g0, g1, g2, g3, g4, g5, g6, g7, g8, g9]
  exact t

theorem law3_no (J : CallF) (K : Kn2 J) (on : planOn lot good bad a b c d) (p q r : Int) (i k : Nat) (hi : (i : Int) ≤ lot) (hk : k < i) (he : enB lot good bad a b c d i k = false) : Tr tbl J (.trim L3i c3_b0) (P3i lot good bad a b c d p q r i k) .normal (P3i lot good bad a b c d p q r i (k + 1)) := by
  have hl := on.1.1.2
  have t : Tr tbl J ((.trim L3i c3_b0)) (fun s h => s.get [true, false] = .ptr 1 0 2 ∧ s.get [false, true] = .ptr 2 0 2 ∧ s.get [false, false, false] = G lot ∧ s.get [true, false, false] = G good ∧ s.get [false, true, false] = G bad ∧ s.get [true, true, false] = G p ∧ s.get [false, false, true] = G q ∧ s.get [true, false, true] = G r ∧ s.get [false, true, true] = G i ∧ s.get [true, true, true] = G k ∧ h = HL lot good bad a b c d) .normal (fun s h => s.get [true, false] = .ptr 1 0 2 ∧ s.get [false, true] = .ptr 2 0 2 ∧ s.get [false, false, false] = G lot ∧ s.get [true, false, false] = G good ∧ s.get [false, true, false] = G bad ∧ s.get [true, true, false] = G p ∧ s.get [false, false, true] = G q ∧ s.get [true, false, true] = G r ∧ s.get [false, true, true] = G i ∧ s.get [true, true, true] = G ((k + 1 : Nat) : Int) ∧ h = HL lot good bad a b c d) := Tr.region fun s h hp => by
    obtain ⟨g0, g1, g2, g3, g4, g5, g6, g7, g8, g9, rfl⟩ := hp
    simp (disch := first | omega | exact getEq rfl) [c3_b0, c3_o8, c3_o9, c3_o11, HL, came_some, List.getElem?_cons_zero, List.getElem?_cons_succ, kn, keep, frameOf, Heap.size, Heap.get, Eff.app, Heap.setOwn, putAt, AV.cells, fillA, loadA, takeA, mk, Eff.isAll, Eff.isNone, Eff.commutes, Eff.spares, okPair, apart, eqAgg, fits, LK.fits, allEq, aveq, eqk, mmA, beqT, wrapI, idxI, tdivI, tmodI, decT, decF, ibT, ibF, evScope_c, if_pos, if_neg, g0, g1, g2, g3, g4, g5, g6, g7, g8, g9, K.k21, on, he]
  exact t

theorem law3_yes (J : CallF) (K : Kn2 J) (on : planOn lot good bad a b c d) (i k : Nat) (hi : (i : Int) ≤ lot) (hk : k < i) (he : enB lot good bad a b c d i k = true) : Tr tbl J (.trim L3i c3_b0) (P3i lot good bad a b c d i k 0 i k) .ret (fun s h => s.get [true, true] = .bool true) := by
  have hl := on.1.1.2
  have t : Tr tbl J ((.trim L3i c3_b0)) (fun s h => s.get [true, false] = .ptr 1 0 2 ∧ s.get [false, true] = .ptr 2 0 2 ∧ s.get [false, false, false] = G lot ∧ s.get [true, false, false] = G good ∧ s.get [false, true, false] = G bad ∧ s.get [true, true, false] = G i ∧ s.get [false, false, true] = G k ∧ s.get [true, false, true] = G 0 ∧ s.get [false, true, true] = G i ∧ s.get [true, true, true] = G k ∧ h = HL lot good bad a b c d) .ret (fun s h => s.get [true, true] = .bool true) := Tr.region fun s h hp => by
    obtain ⟨g0, g1, g2, g3, g4, g5, g6, g7, g8, g9, rfl⟩ := hp
    simp (disch := first | omega | exact getEq rfl) [c3_b0, c3_o8, c3_o9, c3_o10, HL, came_some, List.getElem?_cons_zero, List.getElem?_cons_succ, kn, keep, frameOf, Heap.size, Heap.get, Eff.app, Heap.setOwn, putAt, AV.cells, fillA, loadA, takeA, mk, Eff.isAll, Eff.isNone, Eff.commutes, Eff.spares, okPair, apart, eqAgg, fits, LK.fits, allEq, aveq, eqk, mmA, beqT, wrapI, idxI, tdivI, tmodI, decT, decF, ibT, ibF, evScope_c, if_pos, if_neg, g0, g1, g2, g3, g4, g5, g6, g7, g8, g9, K.k21, K.k20, on, he]
  exact t

theorem law3_in (J : CallF) (K : Kn2 J) (on : planOn lot good bad a b c d) (p q r : Int) (i : Nat) (hi : (i : Int) ≤ lot) : ∀ j k, k + j = i → match fIn (enB lot good bad a b c d i) j k with
    | some k' => p = i → q = k' → r = 0 → Tr tbl J c3_l0 (P3i lot good bad a b c d p q r i k) .ret (fun s h => s.get [true, true] = .bool true)
    | none => Tr tbl J c3_l0 (P3i lot good bad a b c d p q r i k) (.exit 2) (P3 lot good bad a b c d p q r i) := by
  intro j
  induction j with
  | zero =>
    intro k hk
    obtain rfl : k = i := by omega
    exact Tr.out (law3_end J p q r k) (by simp)
  | succ j ih =>
    intro k hk
    unfold fIn
    by_cases hp : enB lot good bad a b c d i k = true
    · rw [if_pos hp]
      rintro rfl rfl rfl
      exact Tr.out (law3_yes J K on i k hi (by omega) hp) (by simp)
    · rw [if_neg hp]
      have hp' : enB lot good bad a b c d i k = false := by simpa using hp
      have := ih (k + 1) (by omega)
      split at this
      · rename_i k' e; exact fun x y z => Tr.next (law3_no J K on p q r i k hi (by omega) hp') (this x y z)
      · rename_i e; exact Tr.next (law3_no J K on p q r i k hi (by omega) hp') this

theorem law3_out (J : CallF) (K : Kn2 J) (on : planOn lot good bad a b c d) (p q r : Int) : ∀ j i, i + j = lot.toNat + 1 → 1 ≤ i → match fOut (enB lot good bad a b c d) j i with
    | some (i', k') => p = i' → q = k' → r = 0 → Tr tbl J c3_l1 (P3 lot good bad a b c d p q r i) .ret (fun s h => s.get [true, true] = .bool true)
    | none => Tr tbl J c3_l1 (P3 lot good bad a b c d p q r i) (.exit 0) (fun s h => s.get [true, true, false] = G p ∧ s.get [false, false, true] = G q ∧ s.get [true, false, true] = G r) := by
  intro j
  have hl := on.1.1
  induction j with
  | zero =>
    intro i hi _
    have t : Tr tbl J ((.trim L3o (.seq c3_o6 (.cond (.s [true, true, false, false, false, false]) .skip (.exit 0))))) (fun s h => s.get [true, false] = .ptr 1 0 2 ∧ s.get [false, true] = .ptr 2 0 2 ∧ s.get [false, false, false] = G lot ∧ s.get [true, false, false] = G good ∧ s.get [false, true, false] = G bad ∧ s.get [true, true, false] = G p ∧ s.get [false, false, true] = G q ∧ s.get [true, false, true] = G r ∧ s.get [false, true, true] = G i ∧ h = HL lot good bad a b c d) (.exit 0) (fun s h => s.get [true, true, false] = G p ∧ s.get [false, false, true] = G q ∧ s.get [true, false, true] = G r) := Tr.region fun s h hp => by
      obtain ⟨g0, g1, g2, g3, g4, g5, g6, g7, g8, rfl⟩ := hp
      simp (disch := first | omega | exact getEq rfl) [c3_o6, came_some, List.getElem?_cons_zero, List.getElem?_cons_succ, kn, keep, frameOf, Heap.size, Heap.get, Eff.app, Heap.setOwn, putAt, AV.cells, fillA, loadA, takeA, mk, Eff.isAll, Eff.isNone, Eff.commutes, Eff.spares, okPair, apart, eqAgg, fits, LK.fits, allEq, aveq, eqk, mmA, beqT, wrapI, idxI, tdivI, tmodI, decT, decF, ibT, ibF, evScope_c, if_pos, if_neg, g0, g1, g2, g3, g4, g5, g6, g7, g8]
    exact Tr.out (Tr.trim_seq_out t (by simp)) (by simp)
  | succ j ih =>
    intro i hi hi1
    have t : Tr tbl J ((.trim L3o (.seq c3_o6 (.cond (.s [true, true, false, false, false, false]) .skip (.exit 0))))) (fun s h => s.get [true, false] = .ptr 1 0 2 ∧ s.get [false, true] = .ptr 2 0 2 ∧ s.get [false, false, false] = G lot ∧ s.get [true, false, false] = G good ∧ s.get [false, true, false] = G bad ∧ s.get [true, true, false] = G p ∧ s.get [false, false, true] = G q ∧ s.get [true, false, true] = G r ∧ s.get [false, true, true] = G i ∧ h = HL lot good bad a b c d) .normal (fun s h => s.get [true, false] = .ptr 1 0 2 ∧ s.get [false, true] = .ptr 2 0 2 ∧ s.get [false, false, false] = G lot ∧ s.get [true, false, false] = G good ∧ s.get [false, true, false] = G bad ∧ s.get [true, true, false] = G p ∧ s.get [false, false, true] = G q ∧ s.get [true, false, true] = G r ∧ s.get [false, true, true] = G i ∧ h = HL lot good bad a b c d) := Tr.region fun s h hp => by
      obtain ⟨g0, g1, g2, g3, g4, g5, g6, g7, g8, rfl⟩ := hp
      simp (disch := first | omega | exact getEq rfl) [c3_o6, came_some, List.getElem?_cons_zero, List.getElem?_cons_succ, kn, keep, frameOf, Heap.size, Heap.get, Eff.app, Heap.setOwn, putAt, AV.cells, fillA, loadA, takeA, mk, Eff.isAll, Eff.isNone, Eff.commutes, Eff.spares, okPair, apart, eqAgg, fits, LK.fits, allEq, aveq, eqk, mmA, beqT, wrapI, idxI, tdivI, tmodI, decT, decF, ibT, ibF, evScope_c, if_pos, if_neg, g0, g1, g2, g3, g4, g5, g6, g7, g8]
    have t1 : Tr tbl J (c3_o7) (fun s h => s.get [true, false] = .ptr 1 0 2 ∧ s.get [false, true] = .ptr 2 0 2 ∧ s.get [false, false, false] = G lot ∧ s.get [true, false, false] = G good ∧ s.get [false, true, false] = G bad ∧ s.get [true, true, false] = G p ∧ s.get [false, false, true] = G q ∧ s.get [true, false, true] = G r ∧ s.get [false, true, true] = G i ∧ h = HL lot good bad a b c d) .normal (fun s h => s.get [true, false] = .ptr 1 0 2 ∧ s.get [false, true] = .ptr 2 0 2 ∧ s.get [false, false, false] = G lot ∧ s.get [true, false, false] = G good ∧ s.get [false, true, false] = G bad ∧ s.get [true, true, false] = G p ∧ s.get [false, false, true] = G q ∧ s.get [true, false, true] = G r ∧ s.get [false, true, true] = G i ∧ s.get [true, true, true] = G ((0 : Nat) : Int) ∧ h = HL lot good bad a b c d) := Tr.region fun s h hp => by
      obtain ⟨g0, g1, g2, g3, g4, g5, g6, g7, g8, rfl⟩ := hp
      simp (disch := first | omega | exact getEq rfl) [c3_o7, came_some, List.getElem?_cons_zero, List.getElem?_cons_succ, kn, keep, frameOf, Heap.size, Heap.get, Eff.app, Heap.setOwn, putAt, AV.cells, fillA, loadA, takeA, mk, Eff.isAll, Eff.isNone, Eff.commutes, Eff.spares, okPair, apart, eqAgg, fits, LK.fits, allEq, aveq, eqk, mmA, beqT, wrapI, idxI, tdivI, tmodI, decT, decF, ibT, ibF, evScope_c, if_pos, if_neg, g0, g1, g2, g3, g4, g5, g6, g7, g8]
    have t2 : Tr tbl J (c3_o12) (fun s h => s.get [true, false] = .ptr 1 0 2 ∧ s.get [false, true] = .ptr 2 0 2 ∧ s.get [false, false, false] = G lot ∧ s.get [true, false, false] = G good ∧ s.get [false, true, false] = G bad ∧ s.get [true, true, false] = G p ∧ s.get [false, false, true] = G q ∧ s.get [true, false, true] = G r ∧ s.get [false, true, true] = G i ∧ h = HL lot good bad a b c d) .normal (fun s h => s.get [true, false] = .ptr 1 0 2 ∧ s.get [false, true] = .ptr 2 0 2 ∧ s.get [false, false, false] = G lot ∧ s.get [true, false, false] = G good ∧ s.get [false, true, false] = G bad ∧ s.get [true, true, false] = G p ∧ s.get [false, false, true] = G q ∧ s.get [true, false, true] = G r ∧ s.get [false, true, true] = G ((i + 1 : Nat) : Int) ∧ h = HL lot good bad a b c d) := Tr.region fun s h hp => by
      obtain ⟨g0, g1, g2, g3, g4, g5, g6, g7, g8, rfl⟩ := hp
      simp (disch := first | omega | exact getEq rfl) [c3_o12, came_some, List.getElem?_cons_zero, List.getElem?_cons_succ, kn, keep, frameOf, Heap.size, Heap.get, Eff.app, Heap.setOwn, putAt, AV.cells, fillA, loadA, takeA, mk, Eff.isAll, Eff.isNone, Eff.commutes, Eff.spares, okPair, apart, eqAgg, fits, LK.fits, allEq, aveq, eqk, mmA, beqT, wrapI, idxI, tdivI, tmodI, decT, decF, ibT, ibF, evScope_c, if_pos, if_neg, g0, g1, g2, g3, g4, g5, g6, g7, g8]
    have hin := law3_in J K on p q r i (by omega) i 0 (by omega)
    have := ih (i + 1) (by omega) (by omega)
    unfold fOut
    cases hf : fIn (enB lot good bad a b c d i) i 0 with
    | some k' =>
      rw [hf] at hin
      exact fun x y z => Tr.out (Tr.trim_seq t (Tr.seq_out (Tr.block_out (Tr.seq t1 (Tr.block_out (hin x y z) (by simp))) (by simp)) (by simp))) (by simp)
    | none =>
      rw [hf] at hin
      have ht := Tr.trim_seq t (Tr.seq (Tr.block_out (id := 1) (Tr.seq t1 (Tr.block hin)) (by simp)) t2)
      simp only
      split
      · rename_i e
        rw [e] at this
        exact fun x y z => Tr.next ht (this x y z)
      · rename_i e
        rw [e] at this
        exact Tr.next ht this

theorem law3_ok (J : CallF) (K : Kn2 J) (hJ : ∀ a h, J 3 a h = none) (lot good bad a b c d : Int) : CallsTo tbl J 3 [.agg [G lot, G good, G bad], .agg [G a, G b], .agg [G c, G d]] e0 (.bool true, [], false) := by
  let s0 : T := T.set (T.set (T.set .leaf [] (.agg [G lot, G good, G bad])) [false] (.agg [G a, G b])) [true] (.agg [G c, G d])
  have t0 : Tr tbl J ((.seq c3_o0 c3_o1)) (fun s h => s = T.set (T.set (T.set .leaf [] (.agg [G lot, G good, G bad])) [false] (.agg [G a, G b])) [true] (.agg [G c, G d]) ∧ h = ⟨e0.get, 0, []⟩) .normal (fun s h => s.get [true, false] = .ptr 1 0 2 ∧ s.get [false, true] = .ptr 2 0 2 ∧ s.get [false, false, false] = G lot ∧ s.get [true, false, false] = G good ∧ s.get [false, true, false] = G bad ∧ h = HL lot good bad a b c d) := Tr.region fun s h hp => by
    obtain ⟨rfl, rfl⟩ := hp
    simp (disch := first | omega | exact getEq rfl) [c3_o0, c3_o1, HL, came_some, List.getElem?_cons_zero, List.getElem?_cons_succ, kn, keep, frameOf, Heap.size, Heap.get, Eff.app, Heap.setOwn, putAt, AV.cells, fillA, loadA, takeA, mk, Eff.isAll, Eff.isNone, Eff.commutes, Eff.spares, okPair, apart, eqAgg, fits, LK.fits, allEq, aveq, eqk, mmA, beqT, wrapI, idxI, tdivI, tmodI, decT, decF, ibT, ibF, evScope_c, if_pos, if_neg]
  refine Tr.fnv (cf := c3) (e := .ret) (s := s0) (by decide) rfl (hJ _ _) rfl rfl rfl (by simp) ?_
  refine Tr.post (Q := (fun s h => s.get [true, true] = .bool true)) (fun s h q => by simp [c3, q]) (Tr.app2 t0 ?_)
  by_cases on : planOn lot good bad a b c d
  · generalize hp : planN (planR lot good bad a b c d) = p
    generalize hq : planC (planR lot good bad a b c d) = q
    generalize hr : planE (planR lot good bad a b c d) = r
    have hv : planV lot good bad a b c d = .tup [G p, G q, G r] := by unfold planV; rw [if_pos on, hp, hq, hr]
    obtain ⟨v1, v2, v3, v4⟩ := on
    have hl := v1.1
    have t2 : Tr tbl J ((.seq c3_o2 (.seq c3_o3 (.cond (.s [true, true, false, false, true]) (.seq c3_o4 .ret) .skip)))) (fun s h => s.get [true, false] = .ptr 1 0 2 ∧ s.get [false, true] = .ptr 2 0 2 ∧ s.get [false, false, false] = G lot ∧ s.get [true, false, false] = G good ∧ s.get [false, true, false] = G bad ∧ h = HL lot good bad a b c d) .normal (fun s h => s.get [true, false] = .ptr 1 0 2 ∧ s.get [false, true] = .ptr 2 0 2 ∧ s.get [false, false, false] = G lot ∧ s.get [true, false, false] = G good ∧ s.get [false, true, false] = G bad ∧ s.get [true, true, false] = G p ∧ s.get [false, false, true] = G q ∧ s.get [true, false, true] = G r ∧ h = HL lot good bad a b c d) := Tr.region fun s h hp => by
      obtain ⟨g0, g1, g2, g3, g4, rfl⟩ := hp
      simp (disch := first | omega | exact getEq rfl) [c3_o2, c3_o3, HL, came_some, List.getElem?_cons_zero, List.getElem?_cons_succ, kn, keep, frameOf, Heap.size, Heap.get, Eff.app, Heap.setOwn, putAt, AV.cells, fillA, loadA, takeA, mk, Eff.isAll, Eff.isNone, Eff.commutes, Eff.spares, okPair, apart, eqAgg, fits, LK.fits, allEq, aveq, eqk, mmA, beqT, wrapI, idxI, tdivI, tmodI, decT, decF, ibT, ibF, evScope_c, if_pos, if_neg, g0, g1, g2, g3, g4, K.k17, K.k18, K.k19, hv, v1, v2, v3, v4]
    have t5 : Tr tbl J (c3_o5) (fun s h => s.get [true, false] = .ptr 1 0 2 ∧ s.get [false, true] = .ptr 2 0 2 ∧ s.get [false, false, false] = G lot ∧ s.get [true, false, false] = G good ∧ s.get [false, true, false] = G bad ∧ s.get [true, true, false] = G p ∧ s.get [false, false, true] = G q ∧ s.get [true, false, true] = G r ∧ h = HL lot good bad a b c d) .normal (fun s h => s.get [true, false] = .ptr 1 0 2 ∧ s.get [false, true] = .ptr 2 0 2 ∧ s.get [false, false, false] = G lot ∧ s.get [true, false, false] = G good ∧ s.get [false, true, false] = G bad ∧ s.get [true, true, false] = G p ∧ s.get [false, false, true] = G q ∧ s.get [true, false, true] = G r ∧ s.get [false, true, true] = G ((1 : Nat) : Int) ∧ h = HL lot good bad a b c d) := Tr.region fun s h hp => by
      obtain ⟨g0, g1, g2, g3, g4, g5, g6, g7, rfl⟩ := hp
      simp (disch := first | omega | exact getEq rfl) [c3_o5, came_some, List.getElem?_cons_zero, List.getElem?_cons_succ, kn, keep, frameOf, Heap.size, Heap.get, Eff.app, Heap.setOwn, putAt, AV.cells, fillA, loadA, takeA, mk, Eff.isAll, Eff.isNone, Eff.commutes, Eff.spares, okPair, apart, eqAgg, fits, LK.fits, allEq, aveq, eqk, mmA, beqT, wrapI, idxI, tdivI, tmodI, decT, decF, ibT, ibF, evScope_c, if_pos, if_neg, g0, g1, g2, g3, g4, g5, g6, g7]
    have tl := law3_out J K ⟨v1, v2, v3, v4⟩ p q r lot.toNat 1 (by omega) (by omega)
    refine Tr.app2 t2 ?_
    cases hf : fOut (enB lot good bad a b c d) lot.toNat 1 with
    | some x =>
      obtain ⟨n, k⟩ := x
      rw [hf] at tl
      have hf' : planR lot good bad a b c d = some (n, k) := hf
      rw [hf'] at hp hq hr
      exact Tr.seq_out (Tr.seq t5 (Tr.block_out (tl hp.symm hq.symm hr.symm) (by simp))) (by simp)
    | none =>
      rw [hf] at tl
      have hf' : planR lot good bad a b c d = none := hf
      rw [hf'] at hp hq hr
      obtain rfl : p = 0 := hp.symm
      obtain rfl : q = 0 := hq.symm
      obtain rfl : r = 6 := hr.symm
      have t6 : Tr tbl J ((.seq c3_o13 .ret)) (fun s h => s.get [true, true, false] = G 0 ∧ s.get [false, false, true] = G 0 ∧ s.get [true, false, true] = G 6) .ret (fun s h => s.get [true, true] = .bool true) := Tr.region fun s h hp => by
        obtain ⟨g0, g1, g2⟩ := hp
        simp (disch := first | omega | exact getEq rfl) [c3_o13, came_some, List.getElem?_cons_zero, List.getElem?_cons_succ, kn, keep, frameOf, Heap.size, Heap.get, Eff.app, Heap.setOwn, putAt, AV.cells, fillA, loadA, takeA, mk, Eff.isAll, Eff.isNone, Eff.commutes, Eff.spares, okPair, apart, eqAgg, fits, LK.fits, allEq, aveq, eqk, mmA, beqT, wrapI, idxI, tdivI, tmodI, decT, decF, ibT, ibF, evScope_c, if_pos, if_neg, g0, g1, g2, K.k20]
      exact Tr.seq (Tr.seq t5 (Tr.block tl)) t6
  · have hv : planV lot good bad a b c d = .tup [G 0, G 0, G 2] := by unfold planV; rw [if_neg on]
    have X : ∀ v1 v2 v3 v4 : Bool, decide (lotOk lot good) = v1 → decide (lotOk lot bad) = v2 → decide (shOk a b) = v3 → decide (shOk c d) = v4 → (v1 && v2 && v3 && v4) = false →
        Tr tbl J (.seq c3_o2 (.seq c3_o3 (.cond (.s [true, true, false, false, true]) (.seq c3_o4 .ret) .skip))) (fun s h => s.get [true, false] = .ptr 1 0 2 ∧ s.get [false, true] = .ptr 2 0 2 ∧ s.get [false, false, false] = G lot ∧ s.get [true, false, false] = G good ∧ s.get [false, true, false] = G bad ∧ h = HL lot good bad a b c d) .ret (fun s h => s.get [true, true] = .bool true) := by
      intro v1 v2 v3 v4 h1 h2 h3 h4 hh
      have t2 : Tr tbl J ((.seq c3_o2 (.seq c3_o3 (.cond (.s [true, true, false, false, true]) (.seq c3_o4 .ret) .skip)))) (fun s h => s.get [true, false] = .ptr 1 0 2 ∧ s.get [false, true] = .ptr 2 0 2 ∧ s.get [false, false, false] = G lot ∧ s.get [true, false, false] = G good ∧ s.get [false, true, false] = G bad ∧ h = HL lot good bad a b c d) .ret (fun s h => s.get [true, true] = .bool true) := Tr.region fun s h hp => by
        obtain ⟨g0, g1, g2, g3, g4, rfl⟩ := hp
        cases v1 <;> cases v2 <;> cases v3 <;> cases v4 <;> (try cases hh) <;> simp (disch := first | omega | exact getEq rfl) [c3_o2, c3_o3, c3_o4, HL, came_some, List.getElem?_cons_zero, List.getElem?_cons_succ, kn, keep, frameOf, Heap.size, Heap.get, Eff.app, Heap.setOwn, putAt, AV.cells, fillA, loadA, takeA, mk, Eff.isAll, Eff.isNone, Eff.commutes, Eff.spares, okPair, apart, eqAgg, fits, LK.fits, allEq, aveq, eqk, mmA, beqT, wrapI, idxI, tdivI, tmodI, decT, decF, ibT, ibF, evScope_c, if_pos, if_neg, g0, g1, g2, g3, g4, K.k17, K.k18, K.k19, K.k20, hv, h1, h2, h3, h4]
      exact t2
    refine Tr.assoc (Tr.seq_out (X _ _ _ _ rfl rfl rfl rfl ?_) (by simp))
    cases hz : (decide (lotOk lot good) && decide (lotOk lot bad) && decide (shOk a b) && decide (shOk c d)) with
    | false => rfl
    | true =>
      simp only [Bool.and_eq_true, decide_eq_true_eq] at hz
      exact absurd ⟨hz.1.1.1, hz.1.1.2, hz.1.2, hz.2⟩ on
end

theorem plans_ok (lot good bad a b c d : Int) : CallsTo tbl I22 3 [.agg [G lot, G good, G bad], .agg [G a, G b], .agg [G c, G d]] e0 (.bool true, [], false) := law3_ok I22 kn22'' (fun _ _ => rfl) lot good bad a b c d

end Go.Proofs.Ytlkgpcfhpeilhaa.Ev
