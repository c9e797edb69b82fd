/-
  What Curtail and the reference's Curtail answer: the course of a single plan, in new slices. No condition.
-/
import Derived.Test.YtlkgpcfhpeilhaaSHelp
set_option linter.unusedVariables false
set_option linter.unusedSimpArgs false
namespace Go.Proofs.Ytlkgpcfhpeilhaa.Ev
open Go Go.AEv

attribute [local simp] evFunc initS evOps_c evTrim_c evSkip_c evExit_c evRet_c evSeq_c evCond_c evBlock_c evDraw_c runOps_n runOps_c exec_n exec_g pure1_c act AOpd.ev T.get T.set T.put evBin evUn forceT_eq forceV_eq forceL_eq evRess evRes one keep runFP_n runFP_c app_none AV.flats AV.flat

/-- When to accept, of a single plan. -/
def cA (n c : Int) (i : Nat) : Int := if -1 < c - n + (i + 1) then c - n + (i + 1) else -1

section
variable {n : Nat} {c : Int}
abbrev O32 (S n : Nat) (c : Int) (j : Nat) : List AObj := .cells 0 2 [.nils, .nils] :: .cells 1 1 [G (c + 1)] :: .cells 1 n (List.replicate n (G (c + 1))) :: .cells 0 2 [.slice (S + 5) 0 (j + 1) (j + 1), .slice (S + 2) 0 n n] :: .cells 1 1 [G (cA n c 0)] :: .cells 1 (j + 1) (zs (cA n c) (j + 1)) :: bts (cA n c) j
abbrev L32 : List Path := [[false], [true], [true, true], [true, false, false], [false, true, false]]

theorem curt_first (J : CallF) (h : Heap) (hn : n ≤ 36) (hc : 0 ≤ c ∧ c < n) : Tr tbl J (.trim L32 c32_b0) (fun s h' => s.get [false] = G n ∧ s.get [true] = G c ∧ s.get [true, true] = .ptr h.size 0 2 ∧ s.get [true, false, false] = .ptr (h.size + 3) 0 2 ∧ s.get [false, true, false] = G 1 ∧ h' = ⟨h.get, h.size, [.cells 0 2 [.nils, .nils], .cells 1 1 [G (c + 1)], .cells 1 n (List.replicate n (G (c + 1))), .cells 0 2 [.nils, .slice (h.size + 2) 0 n n]]⟩) .normal
    (fun s h' => s.get [false] = G n ∧ s.get [true] = G c ∧ s.get [true, true] = .ptr h.size 0 2 ∧ s.get [true, false, false] = .ptr (h.size + 3) 0 2 ∧ s.get [false, true, false] = G ((0 + 2 : Nat) : Int) ∧ h' = ⟨h.get, h.size, O32 h.size n c 0⟩) := by
  have e : (if -1 < c - (n : Int) + 1 then c - (n : Int) + 1 else -1) = cA n c 0 := by simp [cA]
  have e2 : zs (cA n c) 1 = [G (cA n c 0)] := rfl
  have e3 : bts (cA n c) 0 = [] := rfl
  have t : Tr tbl J ((.trim L32 c32_b0)) (fun s h' => s.get [false] = G n ∧ s.get [true] = G c ∧ s.get [true, true] = .ptr h.size 0 2 ∧ s.get [true, false, false] = .ptr (h.size + 3) 0 2 ∧ s.get [false, true, false] = G 1 ∧ h' = ⟨h.get, h.size, [.cells 0 2 [.nils, .nils], .cells 1 1 [G (c + 1)], .cells 1 n (List.replicate n (G (c + 1))), .cells 0 2 [.nils, .slice (h.size + 2) 0 n n]]⟩) .normal (fun s h' => s.get [false] = G n ∧ s.get [true] = G c ∧ s.get [true, true] = .ptr h.size 0 2 ∧ s.get [true, false, false] = .ptr (h.size + 3) 0 2 ∧ s.get [false, true, false] = G ((0 + 2 : Nat) : Int) ∧ h' = ⟨h.get, h.size, O32 h.size n c 0⟩) := Tr.region fun s h hp => by
    obtain ⟨g0, g1, g2, g3, g4, rfl⟩ := hp
    simp (disch := first | omega | exact getEq rfl | exact getO0 | exact Nat.le_of_ble_eq_true rfl) [c32_b0, c32_o5, c32_o6, c32_o7, came_some, goI, List.getElem?_cons_zero, List.getElem?_cons_succ, kn, keep, frameOf, size_mk, get_mk_lt, get_mk_ge, Eff.app, Heap.setOwn, putAt, AV.cells, fillA, loadA, takeA, mk, Eff.isAll, Eff.isNone, Eff.commutes, Eff.spares, okPair, apart, eqAgg, fits, LK.fits, allEq, aveq, eqk, mmA, beqT, wrapI, idxI, tdivI, tmodI, decT, decF, ibT, ibF, inT, inF, evScope_c, if_pos, if_neg, g0, g1, g2, g3, g4, appA, elems, rdOf, e, e2, e3]
  exact t

theorem bts_at (A : Nat → Int) (j : Nat) : (bts A (j + 1))[j]? = some (.cells 1 1 [G (A (j + 1))]) := by
  rw [bts, List.getElem?_append_right (by rw [bts_len]; omega), bts_len, Nat.sub_self]; rfl

theorem curt_next (J : CallF) (h : Heap) (hn : n ≤ 36) (hc : 0 ≤ c ∧ c < n) (j : Nat) (hj : j + 2 ≤ n) : Tr tbl J (.trim L32 c32_b0) (fun s h' => s.get [false] = G n ∧ s.get [true] = G c ∧ s.get [true, true] = .ptr h.size 0 2 ∧ s.get [true, false, false] = .ptr (h.size + 3) 0 2 ∧ s.get [false, true, false] = G ((j + 2 : Nat) : Int) ∧ h' = ⟨h.get, h.size, O32 h.size n c j⟩) .normal
    (fun s h' => s.get [false] = G n ∧ s.get [true] = G c ∧ s.get [true, true] = .ptr h.size 0 2 ∧ s.get [true, false, false] = .ptr (h.size + 3) 0 2 ∧ s.get [false, true, false] = G ((j + 1 + 2 : Nat) : Int) ∧ h' = ⟨h.get, h.size, O32 h.size n c (j + 1)⟩) := by
  have e : (if -1 < c - (n : Int) + ((j : Int) + 2) then c - (n : Int) + ((j : Int) + 2) else -1) = cA n c (j + 1) := by
    unfold cA; rw [show (((j + 1 : Nat) : Int) + 1) = (j : Int) + 2 by omega]
  have l1 := zs_len (cA n c) (j + 1)
  have l2 := bts_len (cA n c) j
  have r1 := zs_succ (cA n c) (j + 1)
  have r2 : bts (cA n c) j ++ [.cells 1 1 [G (cA n c (j + 1))]] = bts (cA n c) (j + 1) := rfl
  have r4 := bts_at (cA n c) j
  unfold O32
  have t : Tr tbl J ((.trim L32 c32_b0)) (fun s h' => s.get [false] = G n ∧ s.get [true] = G c ∧ s.get [true, true] = .ptr h.size 0 2 ∧ s.get [true, false, false] = .ptr (h.size + 3) 0 2 ∧ s.get [false, true, false] = G ((j + 2 : Nat) : Int) ∧ h' = ⟨h.get, h.size, O32 h.size n c j⟩) .normal (fun s h' => s.get [false] = G n ∧ s.get [true] = G c ∧ s.get [true, true] = .ptr h.size 0 2 ∧ s.get [true, false, false] = .ptr (h.size + 3) 0 2 ∧ s.get [false, true, false] = G ((j + 1 + 2 : Nat) : Int) ∧ h' = ⟨h.get, h.size, O32 h.size n c (j + 1)⟩) := Tr.region fun s h hp => by
    obtain ⟨g0, g1, g2, g3, g4, rfl⟩ := hp
    simp (disch := first | omega | exact getEq rfl | exact getO0 | exact Nat.le_of_ble_eq_true rfl) [c32_b0, c32_o5, c32_o6, c32_o7, came_some, goI, List.getElem?_cons_zero, List.getElem?_cons_succ, kn, keep, frameOf, size_mk, get_mk_lt, get_mk_ge, Eff.app, Heap.setOwn, putAt, AV.cells, fillA, loadA, takeA, mk, Eff.isAll, Eff.isNone, Eff.commutes, Eff.spares, okPair, apart, eqAgg, fits, LK.fits, allEq, aveq, eqk, mmA, beqT, wrapI, idxI, tdivI, tmodI, decT, decF, ibT, ibF, inT, inF, evScope_c, if_pos, if_neg, g0, g1, g2, g3, g4, appA, elems, rdOf, e, l1, l2, r1, r2, r4, List.getElem?_append_right]
    omega
  exact t

def own32 (S n : Nat) (c : Int) : List AObj := .cells 0 2 [.slice (S + 5) 0 n n, .slice (S + 2) 0 n n] :: .cells 1 1 [G (c + 1)] :: .cells 1 n (List.replicate n (G (c + 1))) :: .cells 0 2 [.slice (S + 5) 0 n n, .slice (S + 2) 0 n n] :: .cells 1 1 [G (cA n c 0)] :: .cells 1 n (zs (cA n c) n) :: bts (cA n c) (n - 1)

theorem c32_good (J : CallF) (K : Kn J) (k61 : ∀ (h : Heap) (b : Nat) (n x : Int) (hb : h.get b = .cells 1 1 [G x]) (h1 : 1 ≤ n) (h2 : n ≤ 60), J 61 [.slice b 0 1 1, G n] h = some (.slice h.size 0 n.toNat n.toNat, [.cells 1 n.toNat (List.replicate n.toNat (G x))], false)) (hJ : ∀ a h, J 32 a h = none) {lot : Int} (h : Heap) (hl : lot ≤ 36) (h1 : 1 ≤ n) (hn : (n : Int) ≤ lot) (hc : 0 ≤ c ∧ c < n) :
    CallsTo tbl J 32 [G lot, G n, G c] h (.tup [.agg [.slice (h.size + 5) 0 n n, .slice (h.size + 2) 0 n n], G 0], own32 h.size n c, false) := by
  have hl0 : lotOk lot 0 := ⟨⟨by omega, hl⟩, by omega, by omega⟩
  have hp : planOk lot n c := ⟨⟨by omega, hn⟩, hc.1, by omega⟩
  refine Tr.fnh (cf := c32) (e := .ret) (s := T.set (T.set (T.set .leaf [] (G lot)) [false] (G n)) [true] (G c)) (by decide) rfl (hJ _ _) rfl rfl rfl (by simp) ?_
  have t0 : Tr tbl J (c32_o0) (fun s h' => s = T.set (T.set (T.set .leaf [] (G lot)) [false] (G n)) [true] (G c) ∧ h' = frameOf h) .normal (fun s h' => s.get [] = G lot ∧ s.get [false] = G n ∧ s.get [true] = G c ∧ s.get [true, true] = .ptr h.size 0 2 ∧ h' = ⟨h.get, h.size, [.cells 0 2 [.nils, .nils]]⟩) := Tr.region fun s h hp => by
    obtain ⟨rfl, rfl⟩ := hp
    simp (disch := first | omega | exact getEq rfl | exact getO0 | exact Nat.le_of_ble_eq_true rfl) [c32_o0, came_some, goI, List.getElem?_cons_zero, List.getElem?_cons_succ, kn, keep, frameOf, size_mk, get_mk_lt, get_mk_ge, Eff.app, Heap.setOwn, putAt, AV.cells, fillA, loadA, takeA, mk, Eff.isAll, Eff.isNone, Eff.commutes, Eff.spares, okPair, apart, eqAgg, fits, LK.fits, allEq, aveq, eqk, mmA, beqT, wrapI, idxI, tdivI, tmodI, decT, decF, ibT, ibF, inT, inF, evScope_c, if_pos, if_neg]
  have t1 : Tr tbl J ((.seq c32_o1 (.cond (.s [false, false, true, false]) (.seq c32_o2 .ret) .skip))) (fun s h' => s.get [] = G lot ∧ s.get [false] = G n ∧ s.get [true] = G c ∧ s.get [true, true] = .ptr h.size 0 2 ∧ h' = ⟨h.get, h.size, [.cells 0 2 [.nils, .nils]]⟩) .normal (fun s h' => s.get [false] = G n ∧ s.get [true] = G c ∧ s.get [true, true] = .ptr h.size 0 2 ∧ h' = ⟨h.get, h.size, [.cells 0 2 [.nils, .nils]]⟩) := Tr.region fun s h hp => by
    obtain ⟨g0, g1, g2, g3, rfl⟩ := hp
    simp (disch := first | omega | exact getEq rfl | exact getO0 | exact Nat.le_of_ble_eq_true rfl) [c32_o1, came_some, goI, List.getElem?_cons_zero, List.getElem?_cons_succ, kn, keep, frameOf, size_mk, get_mk_lt, get_mk_ge, Eff.app, Heap.setOwn, putAt, AV.cells, fillA, loadA, takeA, mk, Eff.isAll, Eff.isNone, Eff.commutes, Eff.spares, okPair, apart, eqAgg, fits, LK.fits, allEq, aveq, eqk, mmA, beqT, wrapI, idxI, tdivI, tmodI, decT, decF, ibT, ibF, inT, inF, evScope_c, if_pos, if_neg, g0, g1, g2, g3, K.k52, K.k60, hl0, hp]
  have kk := k61 ⟨h.get, h.size, [.cells 0 2 [.nils, .nils], .cells 1 1 [G (c + 1)]]⟩ (h.size + 1) n (c + 1) (by rw [get_mk_ge _ _ _ _ (by omega), Nat.add_sub_cancel_left]; rfl) (by omega) (by omega)
  simp only [size_mk, List.length_cons, List.length_nil, Int.toNat_natCast] at kk
  have t2 : Tr tbl J (c32_o3) (fun s h' => s.get [false] = G n ∧ s.get [true] = G c ∧ s.get [true, true] = .ptr h.size 0 2 ∧ h' = ⟨h.get, h.size, [.cells 0 2 [.nils, .nils]]⟩) .normal (fun s h' => s.get [false] = G n ∧ s.get [true] = G c ∧ s.get [true, true] = .ptr h.size 0 2 ∧ s.get [true, false, false] = .ptr (h.size + 3) 0 2 ∧ h' = ⟨h.get, h.size, [.cells 0 2 [.nils, .nils], .cells 1 1 [G (c + 1)], .cells 1 n (List.replicate n (G (c + 1))), .cells 0 2 [.nils, .slice (h.size + 2) 0 n n]]⟩) := Tr.region fun s h hp => by
    obtain ⟨g0, g1, g2, rfl⟩ := hp
    simp (disch := first | omega | exact getEq rfl | exact getO0 | exact Nat.le_of_ble_eq_true rfl) [c32_o3, came_some, goI, List.getElem?_cons_zero, List.getElem?_cons_succ, kn, keep, frameOf, size_mk, get_mk_lt, get_mk_ge, Eff.app, Heap.setOwn, putAt, AV.cells, fillA, loadA, takeA, mk, Eff.isAll, Eff.isNone, Eff.commutes, Eff.spares, okPair, apart, eqAgg, fits, LK.fits, allEq, aveq, eqk, mmA, beqT, wrapI, idxI, tdivI, tmodI, decT, decF, ibT, ibF, inT, inF, evScope_c, if_pos, if_neg, g0, g1, g2, kk]
  have t3 : Tr tbl J (c32_o4) (fun s h' => s.get [false] = G n ∧ s.get [true] = G c ∧ s.get [true, true] = .ptr h.size 0 2 ∧ s.get [true, false, false] = .ptr (h.size + 3) 0 2 ∧ h' = ⟨h.get, h.size, [.cells 0 2 [.nils, .nils], .cells 1 1 [G (c + 1)], .cells 1 n (List.replicate n (G (c + 1))), .cells 0 2 [.nils, .slice (h.size + 2) 0 n n]]⟩) .normal (fun s h' => s.get [false] = G n ∧ s.get [true] = G c ∧ s.get [true, true] = .ptr h.size 0 2 ∧ s.get [true, false, false] = .ptr (h.size + 3) 0 2 ∧ s.get [false, true, false] = G 1 ∧ h' = ⟨h.get, h.size, [.cells 0 2 [.nils, .nils], .cells 1 1 [G (c + 1)], .cells 1 n (List.replicate n (G (c + 1))), .cells 0 2 [.nils, .slice (h.size + 2) 0 n n]]⟩) := Tr.region fun s h hp => by
    obtain ⟨g0, g1, g2, g3, rfl⟩ := hp
    simp (disch := first | omega | exact getEq rfl | exact getO0 | exact Nat.le_of_ble_eq_true rfl) [c32_o4, came_some, goI, List.getElem?_cons_zero, List.getElem?_cons_succ, kn, keep, frameOf, size_mk, get_mk_lt, get_mk_ge, Eff.app, Heap.setOwn, putAt, AV.cells, fillA, loadA, takeA, mk, Eff.isAll, Eff.isNone, Eff.commutes, Eff.spares, okPair, apart, eqAgg, fits, LK.fits, allEq, aveq, eqk, mmA, beqT, wrapI, idxI, tdivI, tmodI, decT, decF, ibT, ibF, inT, inF, evScope_c, if_pos, if_neg, g0, g1, g2, g3]
  have hn1 : n - 1 + 1 = n := by omega
  have t4 : Tr tbl J ((.trim L32 c32_b0)) (fun s h' => s.get [false] = G n ∧ s.get [true] = G c ∧ s.get [true, true] = .ptr h.size 0 2 ∧ s.get [true, false, false] = .ptr (h.size + 3) 0 2 ∧ s.get [false, true, false] = G ((n - 1 + 2 : Nat) : Int) ∧ h' = ⟨h.get, h.size, O32 h.size n c (n - 1)⟩) (.exit 0) (fun s h' => s.get [true, true] = .ptr h.size 0 2 ∧ s.get [true, false, false] = .ptr (h.size + 3) 0 2 ∧ h' = ⟨h.get, h.size, O32 h.size n c (n - 1)⟩) := Tr.region fun s h hp => by
    obtain ⟨g0, g1, g2, g3, g4, rfl⟩ := hp
    simp (disch := first | omega | exact getEq rfl | exact getO0 | exact Nat.le_of_ble_eq_true rfl) [c32_b0, c32_o5, came_some, goI, List.getElem?_cons_zero, List.getElem?_cons_succ, kn, keep, frameOf, size_mk, get_mk_lt, get_mk_ge, Eff.app, Heap.setOwn, putAt, AV.cells, fillA, loadA, takeA, mk, Eff.isAll, Eff.isNone, Eff.commutes, Eff.spares, okPair, apart, eqAgg, fits, LK.fits, allEq, aveq, eqk, mmA, beqT, wrapI, idxI, tdivI, tmodI, decT, decF, ibT, ibF, inT, inF, evScope_c, if_pos, if_neg, g0, g1, g2, g3, g4]
  have tl := Tr.rounds (P := fun j => (fun s h' => s.get [false] = G n ∧ s.get [true] = G c ∧ s.get [true, true] = .ptr h.size 0 2 ∧ s.get [true, false, false] = .ptr (h.size + 3) 0 2 ∧ s.get [false, true, false] = G ((j + 2 : Nat) : Int) ∧ h' = ⟨h.get, h.size, O32 h.size n c j⟩)) (M := n - 1) (fun j hj => curt_next J h (by omega) hc j (by omega)) t4 (by simp) 0 (by omega)
  have tl' := Tr.next (curt_first J h (by omega) hc) tl
  unfold O32 at tl'
  rw [hn1] at tl'
  have t5 : Tr tbl J ((.seq c32_o8 .ret)) (fun s h' => s.get [true, true] = .ptr h.size 0 2 ∧ s.get [true, false, false] = .ptr (h.size + 3) 0 2 ∧ h' = ⟨h.get, h.size, .cells 0 2 [.nils, .nils] :: .cells 1 1 [G (c + 1)] :: .cells 1 n (List.replicate n (G (c + 1))) :: .cells 0 2 [.slice (h.size + 5) 0 n n, .slice (h.size + 2) 0 n n] :: .cells 1 1 [G (cA n c 0)] :: .cells 1 n (zs (cA n c) n) :: bts (cA n c) (n - 1)⟩) .ret (fun s h' => s.get [true, true] = .ptr h.size 0 2 ∧ s.get [false, false, false] = G 0 ∧ h' = ⟨h.get, h.size, own32 h.size n c⟩) := Tr.region fun s h hp => by
    obtain ⟨g0, g1, rfl⟩ := hp
    simp (disch := first | omega | exact getEq rfl | exact getO0 | exact Nat.le_of_ble_eq_true rfl) [c32_o8, own32, came_some, goI, List.getElem?_cons_zero, List.getElem?_cons_succ, kn, keep, frameOf, size_mk, get_mk_lt, get_mk_ge, Eff.app, Heap.setOwn, putAt, AV.cells, fillA, loadA, takeA, mk, Eff.isAll, Eff.isNone, Eff.commutes, Eff.spares, okPair, apart, eqAgg, fits, LK.fits, allEq, aveq, eqk, mmA, beqT, wrapI, idxI, tdivI, tmodI, decT, decF, ibT, ibF, inT, inF, evScope_c, if_pos, if_neg, g0, g1]
  refine Tr.post (fun s h' q => ?_) (Tr.seq t0 (Tr.seq t1 (Tr.seq t2 (Tr.seq (Tr.seq t3 (Tr.block tl')) t5))))
  obtain ⟨q1, q2, rfl⟩ := q
  simp [c32, q1, q2, loadA, get_mk_ge, takeA, own32]

theorem c32_bad (J : CallF) (K : Kn J) (hJ : ∀ a h, J 32 a h = none) {lot n c : Int} (h : Heap) (hlt : lot < 9223372036854775808) (hp : ¬ (lotOk lot 0 ∧ planOk lot n c)) : CallsTo tbl J 32 [G lot, G n, G c] h (.tup [.agg [.nils, .nils], G 2], [], false) := by
  refine Tr.fnv (cf := c32) (e := .ret) (s := T.set (T.set (T.set .leaf [] (G lot)) [false] (G n)) [true] (G c)) (by decide) rfl (hJ _ _) rfl rfl rfl (by simp) ?_
  have t0 : Tr tbl J (c32_o0) (fun s h' => s = T.set (T.set (T.set .leaf [] (G lot)) [false] (G n)) [true] (G c) ∧ h' = frameOf h) .normal (fun s h' => s.get [] = G lot ∧ s.get [false] = G n ∧ s.get [true] = G c ∧ s.get [true, true] = .ptr h.size 0 2 ∧ h' = ⟨h.get, h.size, [.cells 0 2 [.nils, .nils]]⟩) := Tr.region fun s h hp => by
    obtain ⟨rfl, rfl⟩ := hp
    simp (disch := first | omega | exact getEq rfl | exact getO0 | exact Nat.le_of_ble_eq_true rfl) [c32_o0, came_some, goI, List.getElem?_cons_zero, List.getElem?_cons_succ, kn, keep, frameOf, size_mk, get_mk_lt, get_mk_ge, Eff.app, Heap.setOwn, putAt, AV.cells, fillA, loadA, takeA, mk, Eff.isAll, Eff.isNone, Eff.commutes, Eff.spares, okPair, apart, eqAgg, fits, LK.fits, allEq, aveq, eqk, mmA, beqT, wrapI, idxI, tdivI, tmodI, decT, decF, ibT, ibF, inT, inF, evScope_c, if_pos, if_neg]
  have t1 : Tr tbl J ((.seq c32_o1 (.cond (.s [false, false, true, false]) (.seq c32_o2 .ret) .skip))) (fun s h' => s.get [] = G lot ∧ s.get [false] = G n ∧ s.get [true] = G c ∧ s.get [true, true] = .ptr h.size 0 2 ∧ h' = ⟨h.get, h.size, [.cells 0 2 [.nils, .nils]]⟩) .ret (fun s h' => s.get [true, true] = .ptr h.size 0 2 ∧ s.get [false, false, false] = G 2 ∧ h' = ⟨h.get, h.size, [.cells 0 2 [.nils, .nils]]⟩) := Tr.region fun s h hp => by
    obtain ⟨g0, g1, g2, g3, rfl⟩ := hp
    have hc : ¬ lotOk lot 0 ∨ (lotOk lot 0 ∧ ¬ planOk lot n c) := by by_cases x : lotOk lot 0 <;> simp [x] at hp ⊢; exact hp
    rcases hc with hc | hc <;> simp (disch := first | omega | exact getEq rfl | exact getO0 | exact Nat.le_of_ble_eq_true rfl) [c32_o1, c32_o2, came_some, goI, List.getElem?_cons_zero, List.getElem?_cons_succ, kn, keep, frameOf, size_mk, get_mk_lt, get_mk_ge, Eff.app, Heap.setOwn, putAt, AV.cells, fillA, loadA, takeA, mk, Eff.isAll, Eff.isNone, Eff.commutes, Eff.spares, okPair, apart, eqAgg, fits, LK.fits, allEq, aveq, eqk, mmA, beqT, wrapI, idxI, tdivI, tmodI, decT, decF, ibT, ibF, inT, inF, evScope_c, if_pos, if_neg, g0, g1, g2, g3, K.k52, K.k60, hc]
  refine Tr.post (fun s h' q => ?_) (Tr.seq t0 (Tr.seq_out t1 (by simp)))
  obtain ⟨q1, q2, rfl⟩ := q
  simp [c32, q1, q2, loadA, get_mk_ge, takeA]

/-! ### The reference's Curtail -/
def rts (A : Nat → Int) (r : Int) : Nat → List AObj
  | 0 => []
  | j + 1 => rts A r j ++ [.cells 1 1 [G (A (j + 1))], .cells 1 1 [G r]]
theorem rts_len (A : Nat → Int) (r : Int) : ∀ m, (rts A r m).length = 2 * m
  | 0 => rfl
  | m + 1 => by simp [rts, rts_len A r m]; omega
abbrev O44 (S n : Nat) (c : Int) (j : Nat) : List AObj := .cells 0 2 [.nils, .nils] :: .cells 0 2 [.slice (S + 3) 0 (j + 1) (j + 1), .slice (S + 5) 0 (j + 1) (j + 1)] :: .cells 1 1 [G (cA n c 0)] :: .cells 1 (j + 1) (zs (cA n c) (j + 1)) :: .cells 1 1 [G (c + 1)] :: .cells 1 (j + 1) (zs (fun _ => c + 1) (j + 1)) :: rts (cA n c) (c + 1) j
abbrev L44 : List Path := [[], [false], [true, false], [false, true], [true, true]]

theorem rcurt_first (J : CallF) (h : Heap) (h1 : 1 ≤ n) (hn : n ≤ 36) (hc : 0 ≤ c ∧ c < n) : Tr tbl J (.trim L44 c44_b0) (fun s h' => s.get [] = G n ∧ s.get [false] = G c ∧ s.get [true, false] = .ptr h.size 0 2 ∧ s.get [false, true] = .ptr (h.size + 1) 0 2 ∧ s.get [true, true] = G 1 ∧ h' = ⟨h.get, h.size, [.cells 0 2 [.nils, .nils], .cells 0 2 [.nils, .nils]]⟩) .normal
    (fun s h' => s.get [] = G n ∧ s.get [false] = G c ∧ s.get [true, false] = .ptr h.size 0 2 ∧ s.get [false, true] = .ptr (h.size + 1) 0 2 ∧ s.get [true, true] = G ((0 + 2 : Nat) : Int) ∧ h' = ⟨h.get, h.size, O44 h.size n c 0⟩) := by
  have e : (if -1 < c - ((n : Int) - 1) then c - ((n : Int) - 1) else -1) = cA n c 0 := by
    unfold cA; rw [show c - ((n : Int) - 1) = c - n + (((0 : Nat) : Int) + 1) by omega]
  have e2 : zs (cA n c) 1 = [G (cA n c 0)] := rfl
  have e3 : zs (fun _ => c + 1) 1 = [G (c + 1)] := rfl
  have e4 : rts (cA n c) (c + 1) 0 = [] := rfl
  have t : Tr tbl J ((.trim L44 c44_b0)) (fun s h' => s.get [] = G n ∧ s.get [false] = G c ∧ s.get [true, false] = .ptr h.size 0 2 ∧ s.get [false, true] = .ptr (h.size + 1) 0 2 ∧ s.get [true, true] = G 1 ∧ h' = ⟨h.get, h.size, [.cells 0 2 [.nils, .nils], .cells 0 2 [.nils, .nils]]⟩) .normal (fun s h' => s.get [] = G n ∧ s.get [false] = G c ∧ s.get [true, false] = .ptr h.size 0 2 ∧ s.get [false, true] = .ptr (h.size + 1) 0 2 ∧ s.get [true, true] = G ((0 + 2 : Nat) : Int) ∧ h' = ⟨h.get, h.size, O44 h.size n c 0⟩) := Tr.region fun s h hp => by
    obtain ⟨g0, g1, g2, g3, g4, rfl⟩ := hp
    simp (disch := first | omega | exact getEq rfl | exact getO0 | exact Nat.le_of_ble_eq_true rfl) [c44_b0, c44_o3, c44_o4, c44_o5, c44_o6, came_some, goI, List.getElem?_cons_zero, List.getElem?_cons_succ, kn, keep, frameOf, size_mk, get_mk_lt, get_mk_ge, Eff.app, Heap.setOwn, putAt, AV.cells, fillA, loadA, takeA, mk, Eff.isAll, Eff.isNone, Eff.commutes, Eff.spares, okPair, apart, eqAgg, fits, LK.fits, allEq, aveq, eqk, mmA, beqT, wrapI, idxI, tdivI, tmodI, decT, decF, ibT, ibF, inT, inF, evScope_c, if_pos, if_neg, g0, g1, g2, g3, g4, appA, elems, rdOf, e, e2, e3, e4]
  exact t

theorem rcurt_next (J : CallF) (h : Heap) (hn : n ≤ 36) (hc : 0 ≤ c ∧ c < n) (j : Nat) (hj : j + 2 ≤ n) : Tr tbl J (.trim L44 c44_b0) (fun s h' => s.get [] = G n ∧ s.get [false] = G c ∧ s.get [true, false] = .ptr h.size 0 2 ∧ s.get [false, true] = .ptr (h.size + 1) 0 2 ∧ s.get [true, true] = G ((j + 2 : Nat) : Int) ∧ h' = ⟨h.get, h.size, O44 h.size n c j⟩) .normal
    (fun s h' => s.get [] = G n ∧ s.get [false] = G c ∧ s.get [true, false] = .ptr h.size 0 2 ∧ s.get [false, true] = .ptr (h.size + 1) 0 2 ∧ s.get [true, true] = G ((j + 1 + 2 : Nat) : Int) ∧ h' = ⟨h.get, h.size, O44 h.size n c (j + 1)⟩) := by
  have e : (if -1 < c - ((n : Int) - ((j : Int) + 2)) then c - ((n : Int) - ((j : Int) + 2)) else -1) = cA n c (j + 1) := by
    unfold cA; rw [show c - ((n : Int) - ((j : Int) + 2)) = c - n + (((j + 1 : Nat) : Int) + 1) by omega]
  have l1 := zs_len (cA n c) (j + 1)
  have l3 := zs_len (fun _ => c + 1) (j + 1)
  have l2 := rts_len (cA n c) (c + 1) j
  have r1 := zs_succ (cA n c) (j + 1)
  have r3 := zs_succ (fun _ => c + 1) (j + 1)
  have r2 : rts (cA n c) (c + 1) j ++ [.cells 1 1 [G (cA n c (j + 1))], .cells 1 1 [G (c + 1)]] = rts (cA n c) (c + 1) (j + 1) := rfl
  obtain ⟨L, hL⟩ : ∃ L, 2 * j = L := ⟨_, rfl⟩
  rw [hL] at l2
  generalize hts : rts (cA n c) (c + 1) j = ts at *
  have q1 : ∀ X : AObj, (ts ++ [X])[L]? = some X := fun X => by rw [List.getElem?_append_right (by omega), l2, Nat.sub_self]; rfl
  have q2 : ∀ X Y : AObj, (ts ++ [X, Y])[L + 1]? = some Y := fun X Y => by rw [List.getElem?_append_right (by omega), l2, Nat.add_sub_cancel_left]; rfl
  have r4 : (rts (cA n c) (c + 1) (j + 1))[L + 1]? = some (.cells 1 1 [G (c + 1)]) := by rw [← r2]; exact q2 _ _
  unfold O44
  rw [hts]
  have t : Tr tbl J ((.trim L44 c44_b0)) (fun s h' => s.get [] = G n ∧ s.get [false] = G c ∧ s.get [true, false] = .ptr h.size 0 2 ∧ s.get [false, true] = .ptr (h.size + 1) 0 2 ∧ s.get [true, true] = G ((j + 2 : Nat) : Int) ∧ h' = ⟨h.get, h.size, .cells 0 2 [.nils, .nils] :: .cells 0 2 [.slice (h.size + 3) 0 (j + 1) (j + 1), .slice (h.size + 5) 0 (j + 1) (j + 1)] :: .cells 1 1 [G (cA n c 0)] :: .cells 1 (j + 1) (zs (cA n c) (j + 1)) :: .cells 1 1 [G (c + 1)] :: .cells 1 (j + 1) (zs (fun _ => c + 1) (j + 1)) :: ts⟩) .normal (fun s h' => s.get [] = G n ∧ s.get [false] = G c ∧ s.get [true, false] = .ptr h.size 0 2 ∧ s.get [false, true] = .ptr (h.size + 1) 0 2 ∧ s.get [true, true] = G ((j + 1 + 2 : Nat) : Int) ∧ h' = ⟨h.get, h.size, O44 h.size n c (j + 1)⟩) := Tr.region fun s h hp => by
    obtain ⟨g0, g1, g2, g3, g4, rfl⟩ := hp
    simp (disch := first | omega | exact getEq rfl | exact getO0 | exact Nat.le_of_ble_eq_true rfl) [c44_b0, c44_o3, c44_o4, c44_o5, c44_o6, came_some, goI, List.getElem?_cons_zero, List.getElem?_cons_succ, kn, keep, frameOf, size_mk, get_mk_lt, get_mk_ge, Eff.app, Heap.setOwn, putAt, AV.cells, fillA, loadA, takeA, mk, Eff.isAll, Eff.isNone, Eff.commutes, Eff.spares, okPair, apart, eqAgg, fits, LK.fits, allEq, aveq, eqk, mmA, beqT, wrapI, idxI, tdivI, tmodI, decT, decF, ibT, ibF, inT, inF, evScope_c, if_pos, if_neg, g0, g1, g2, g3, g4, appA, elems, rdOf, e, l1, l2, l3, r1, r2, r3, r4, q1, q2]
    omega
  exact t

def own44 (S n : Nat) (c : Int) : List AObj := .cells 0 2 [.slice (S + 3) 0 n n, .slice (S + 5) 0 n n] :: .cells 0 2 [.slice (S + 3) 0 n n, .slice (S + 5) 0 n n] :: .cells 1 1 [G (cA n c 0)] :: .cells 1 n (zs (cA n c) n) :: .cells 1 1 [G (c + 1)] :: .cells 1 n (zs (fun _ => c + 1) n) :: rts (cA n c) (c + 1) (n - 1)

theorem c44_ok (J : CallF) (hJ : ∀ a h, J 44 a h = none) (h : Heap) (h1 : 1 ≤ n) (hn : n ≤ 36) (hc : 0 ≤ c ∧ c < n) : CallsTo tbl J 44 [G n, G c] h (.agg [.slice (h.size + 3) 0 n n, .slice (h.size + 5) 0 n n], own44 h.size n c, false) := by
  refine Tr.fnh (cf := c44) (e := .ret) (s := T.set (T.set .leaf [] (G n)) [false] (G c)) (by decide) rfl (hJ _ _) rfl rfl rfl (by simp) ?_
  have t0 : Tr tbl J ((.seq c44_o0 c44_o1)) (fun s h' => s = T.set (T.set .leaf [] (G n)) [false] (G c) ∧ h' = frameOf h) .normal (fun s h' => s.get [] = G n ∧ s.get [false] = G c ∧ s.get [true, false] = .ptr h.size 0 2 ∧ s.get [false, true] = .ptr (h.size + 1) 0 2 ∧ h' = ⟨h.get, h.size, [.cells 0 2 [.nils, .nils], .cells 0 2 [.nils, .nils]]⟩) := Tr.region fun s h hp => by
    obtain ⟨rfl, rfl⟩ := hp
    simp (disch := first | omega | exact getEq rfl | exact getO0 | exact Nat.le_of_ble_eq_true rfl) [c44_o0, c44_o1, came_some, goI, List.getElem?_cons_zero, List.getElem?_cons_succ, kn, keep, frameOf, size_mk, get_mk_lt, get_mk_ge, Eff.app, Heap.setOwn, putAt, AV.cells, fillA, loadA, takeA, mk, Eff.isAll, Eff.isNone, Eff.commutes, Eff.spares, okPair, apart, eqAgg, fits, LK.fits, allEq, aveq, eqk, mmA, beqT, wrapI, idxI, tdivI, tmodI, decT, decF, ibT, ibF, inT, inF, evScope_c, if_pos, if_neg]
  have t1 : Tr tbl J (c44_o2) (fun s h' => s.get [] = G n ∧ s.get [false] = G c ∧ s.get [true, false] = .ptr h.size 0 2 ∧ s.get [false, true] = .ptr (h.size + 1) 0 2 ∧ h' = ⟨h.get, h.size, [.cells 0 2 [.nils, .nils], .cells 0 2 [.nils, .nils]]⟩) .normal (fun s h' => s.get [] = G n ∧ s.get [false] = G c ∧ s.get [true, false] = .ptr h.size 0 2 ∧ s.get [false, true] = .ptr (h.size + 1) 0 2 ∧ s.get [true, true] = G 1 ∧ h' = ⟨h.get, h.size, [.cells 0 2 [.nils, .nils], .cells 0 2 [.nils, .nils]]⟩) := Tr.region fun s h hp => by
    obtain ⟨g0, g1, g2, g3, rfl⟩ := hp
    simp (disch := first | omega | exact getEq rfl | exact getO0 | exact Nat.le_of_ble_eq_true rfl) [c44_o2, came_some, goI, List.getElem?_cons_zero, List.getElem?_cons_succ, kn, keep, frameOf, size_mk, get_mk_lt, get_mk_ge, Eff.app, Heap.setOwn, putAt, AV.cells, fillA, loadA, takeA, mk, Eff.isAll, Eff.isNone, Eff.commutes, Eff.spares, okPair, apart, eqAgg, fits, LK.fits, allEq, aveq, eqk, mmA, beqT, wrapI, idxI, tdivI, tmodI, decT, decF, ibT, ibF, inT, inF, evScope_c, if_pos, if_neg, g0, g1, g2, g3]
  have hn1 : n - 1 + 1 = n := by omega
  have t4 : Tr tbl J ((.trim L44 c44_b0)) (fun s h' => s.get [] = G n ∧ s.get [false] = G c ∧ s.get [true, false] = .ptr h.size 0 2 ∧ s.get [false, true] = .ptr (h.size + 1) 0 2 ∧ s.get [true, true] = G ((n - 1 + 2 : Nat) : Int) ∧ h' = ⟨h.get, h.size, O44 h.size n c (n - 1)⟩) (.exit 0) (fun s h' => s.get [true, false] = .ptr h.size 0 2 ∧ s.get [false, true] = .ptr (h.size + 1) 0 2 ∧ h' = ⟨h.get, h.size, O44 h.size n c (n - 1)⟩) := Tr.region fun s h hp => by
    obtain ⟨g0, g1, g2, g3, g4, rfl⟩ := hp
    simp (disch := first | omega | exact getEq rfl | exact getO0 | exact Nat.le_of_ble_eq_true rfl) [c44_b0, c44_o3, came_some, goI, List.getElem?_cons_zero, List.getElem?_cons_succ, kn, keep, frameOf, size_mk, get_mk_lt, get_mk_ge, Eff.app, Heap.setOwn, putAt, AV.cells, fillA, loadA, takeA, mk, Eff.isAll, Eff.isNone, Eff.commutes, Eff.spares, okPair, apart, eqAgg, fits, LK.fits, allEq, aveq, eqk, mmA, beqT, wrapI, idxI, tdivI, tmodI, decT, decF, ibT, ibF, inT, inF, evScope_c, if_pos, if_neg, g0, g1, g2, g3, g4]
  have tl := Tr.rounds (P := fun j => (fun s h' => s.get [] = G n ∧ s.get [false] = G c ∧ s.get [true, false] = .ptr h.size 0 2 ∧ s.get [false, true] = .ptr (h.size + 1) 0 2 ∧ s.get [true, true] = G ((j + 2 : Nat) : Int) ∧ h' = ⟨h.get, h.size, O44 h.size n c j⟩)) (M := n - 1) (fun j hj => rcurt_next J h (by omega) hc j (by omega)) t4 (by simp) 0 (by omega)
  have tl' := Tr.next (rcurt_first J h h1 hn hc) tl
  unfold O44 at tl'
  rw [hn1] at tl'
  have t5 : Tr tbl J ((.seq c44_o7 .ret)) (fun s h' => s.get [true, false] = .ptr h.size 0 2 ∧ s.get [false, true] = .ptr (h.size + 1) 0 2 ∧ h' = ⟨h.get, h.size, .cells 0 2 [.nils, .nils] :: .cells 0 2 [.slice (h.size + 3) 0 n n, .slice (h.size + 5) 0 n n] :: .cells 1 1 [G (cA n c 0)] :: .cells 1 n (zs (cA n c) n) :: .cells 1 1 [G (c + 1)] :: .cells 1 n (zs (fun _ => c + 1) n) :: rts (cA n c) (c + 1) (n - 1)⟩) .ret (fun s h' => s.get [true, false] = .ptr h.size 0 2 ∧ h' = ⟨h.get, h.size, own44 h.size n c⟩) := Tr.region fun s h hp => by
    obtain ⟨g0, g1, rfl⟩ := hp
    simp (disch := first | omega | exact getEq rfl | exact getO0 | exact Nat.le_of_ble_eq_true rfl) [c44_o7, own44, came_some, goI, List.getElem?_cons_zero, List.getElem?_cons_succ, kn, keep, frameOf, size_mk, get_mk_lt, get_mk_ge, Eff.app, Heap.setOwn, putAt, AV.cells, fillA, loadA, takeA, mk, Eff.isAll, Eff.isNone, Eff.commutes, Eff.spares, okPair, apart, eqAgg, fits, LK.fits, allEq, aveq, eqk, mmA, beqT, wrapI, idxI, tdivI, tmodI, decT, decF, ibT, ibF, inT, inF, evScope_c, if_pos, if_neg, g0, g1]
  refine Tr.post (fun s h' q => ?_) (Tr.app2 t0 (Tr.seq (Tr.seq t1 (Tr.block tl')) t5))
  obtain ⟨q1, rfl⟩ := q
  simp [c44, q1, loadA, get_mk_ge, takeA, own44]
end

def spec32 : SpecF := fun args h => match args with
  | [.int .i64 lot, .int .i64 n, .int .i64 c] =>
    if lotOk lot 0 ∧ planOk lot n c then some (.tup [.agg [.slice (h.size + 5) 0 n.toNat n.toNat, .slice (h.size + 2) 0 n.toNat n.toNat], G 0], own32 h.size n.toNat c, false)
    else if lot < 9223372036854775808 then some (.tup [.agg [.nils, .nils], G 2], [], false) else none
  | _ => none
def spec44 : SpecF := fun args h => match args with
  | [.int .i64 n, .int .i64 c] => if 1 ≤ n ∧ n ≤ 36 ∧ 0 ≤ c ∧ c < n then some (.agg [.slice (h.size + 3) 0 n.toNat n.toNat, .slice (h.size + 5) 0 n.toNat n.toNat], own44 h.size n.toNat c, false) else none
  | _ => none

end Go.Proofs.Ytlkgpcfhpeilhaa.Ev
