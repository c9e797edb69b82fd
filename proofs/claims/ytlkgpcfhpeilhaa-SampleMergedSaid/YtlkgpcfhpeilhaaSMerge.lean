/-
  What Merge answers: the course of a double plan, in new slices. No condition.
-/
import Derived.Test.YtlkgpcfhpeilhaaSDbl2
set_option linter.unusedVariables false
set_option linter.unusedSimpArgs false
namespace Go.Proofs.Ytlkgpcfhpeilhaa.Ev
open Go Go.AEv

attribute [local simp] evFunc initS evOps_c evTrim_c evSkip_c evExit_c evRet_c evSeq_c evCond_c evBlock_c evDraw_c runOps_n runOps_c exec_n exec_g pure1_c act AOpd.ev T.get T.set T.put evBin evUn forceT_eq forceV_eq forceL_eq evRess evRes one keep runFP_n runFP_c app_none AV.flats AV.flat

theorem zs_get (A : Nat → Int) : ∀ (m i : Nat), (zs A m)[i]? = if i < m then some (G (A i)) else none
  | 0, i => by simp [zs, zl]
  | m + 1, i => by
    rw [← zs_succ]
    by_cases h : i < m
    · rw [List.getElem?_append_left (by rw [zs_len]; exact h), zs_get A m i, if_pos h, if_pos (by omega)]
    · rw [List.getElem?_append_right (by rw [zs_len]; omega), zs_len]
      by_cases h' : i = m
      · subst h'; rw [Nat.sub_self, if_pos (by omega)]; rfl
      · rw [if_neg (by omega), List.getElem?_eq_none (by simp; omega)]

/-- When the merged course accepts, and rejects; N: how many pieces. -/
def mA (n c m d : Int) (i : Nat) : Int := if (i : Int) = n + m - 1 then d else if (i : Int) = n - 1 then c else -1
def mR (n r m d : Int) (i : Nat) : Int := if (i : Int) = n + m - 1 then d + 1 else if (i : Int) = n - 1 then r else n + m + 1

theorem merge_list {n m : Int} (x y z : Int) (f : Nat → Int) (h1 : 1 ≤ n) (h2 : 1 ≤ m) (hf : ∀ i : Nat, f i = if (i : Int) = n + m - 1 then z else if (i : Int) = n - 1 then y else x) :
    ((List.replicate (n + m).toNat (G x)).set (n - 1).toNat (G y)).set (n + m - 1).toNat (G z) = zs f (n + m).toNat := by
  apply List.ext_getElem?
  intro i
  rw [zs_get]
  by_cases hi : i < (n + m).toNat
  · rw [if_pos hi, hf]
    by_cases e1 : (i : Int) = n + m - 1
    · rw [if_pos e1, show (n + m - 1).toNat = i by omega, List.getElem?_set_self (by simp; omega)]
    · rw [if_neg e1, List.getElem?_set_ne (by omega)]
      by_cases e2 : (i : Int) = n - 1
      · rw [if_pos e2, show (n - 1).toNat = i by omega, List.getElem?_set_self (by simp; omega)]
      · rw [if_neg e2, List.getElem?_set_ne (by omega), List.getElem?_replicate, if_pos hi]
  · rw [if_neg hi, List.getElem?_eq_none (by simp; omega)]

section
variable {lot n c r m d : Int}
structure HM (lot n c r m d : Int) : Prop where
  h1 : 1 ≤ lot ∧ lot ≤ 36
  h3 : 1 ≤ n ∧ n ≤ lot
  h4 : 1 ≤ m ∧ m ≤ lot - n
  h5 : 0 ≤ c ∧ c ≤ n
  h6 : c + 2 ≤ r ∧ r ≤ n + 1
  h7 : r - 1 ≤ d ∧ d ≤ n + m - 1
abbrev st47 (S N : Nat) : AObj := .cells 0 2 [.slice (S + 3) 0 N N, .slice (S + 5) 0 N N]
def own47 (S : Nat) (n c r m d : Int) : List AObj := [.cells 0 5 [G n, G c, G r, G m, G d], st47 S (n + m).toNat, .cells 1 1 [G (-1)], .cells 1 (n + m).toNat (zs (mA n c m d) (n + m).toNat), .cells 1 1 [G (n + m + 1)], .cells 1 (n + m).toNat (zs (mR n r m d) (n + m).toNat), st47 S (n + m).toNat]

theorem merge_5 (J : CallF) (h : Heap) (H : HM lot n c r m d) (N : Nat) (hN : (N : Int) = n + m) (cs1 cs2 : List AV) (l1 : cs1.length = N) (l2 : cs2.length = N) :
    Tr tbl J c47_o5 (fun s h' => s.get [false, false] = .ptr h.size 0 5 ∧ s.get [true, false] = .ptr (h.size + 1) 0 2 ∧ s.get [true, true] = G (n + m) ∧ s.get [false, false, false] = .ptr (h.size + 6) 0 2 ∧ h' = ⟨h.get, h.size, [.cells 0 5 [G n, G c, G r, G m, G d], .cells 0 2 [.nils, .nils], .cells 1 1 [G (-1)], .cells 1 N cs1, .cells 1 1 [G (n + m + 1)], .cells 1 N cs2, st47 h.size N]⟩) .normal
      (fun s h' => s.get [false, false] = .ptr h.size 0 5 ∧ s.get [true, false] = .ptr (h.size + 1) 0 2 ∧ s.get [true, true] = G (n + m) ∧ s.get [false, false, false] = .ptr (h.size + 6) 0 2 ∧ h' = ⟨h.get, h.size, [.cells 0 5 [G n, G c, G r, G m, G d], .cells 0 2 [.nils, .nils], .cells 1 1 [G (-1)], .cells 1 N (cs1.set (n - 1).toNat (G c)), .cells 1 1 [G (n + m + 1)], .cells 1 N (cs2.set (n - 1).toNat (G r)), st47 h.size N]⟩) := by
  obtain ⟨h1, h3, h4, h5, h6, h7⟩ := H
  have t : Tr tbl J (c47_o5) (fun s h' => s.get [false, false] = .ptr h.size 0 5 ∧ s.get [true, false] = .ptr (h.size + 1) 0 2 ∧ s.get [true, true] = G (n + m) ∧ s.get [false, false, false] = .ptr (h.size + 6) 0 2 ∧ h' = ⟨h.get, h.size, [.cells 0 5 [G n, G c, G r, G m, G d], .cells 0 2 [.nils, .nils], .cells 1 1 [G (-1)], .cells 1 N cs1, .cells 1 1 [G (n + m + 1)], .cells 1 N cs2, st47 h.size N]⟩) .normal (fun s h' => s.get [false, false] = .ptr h.size 0 5 ∧ s.get [true, false] = .ptr (h.size + 1) 0 2 ∧ s.get [true, true] = G (n + m) ∧ s.get [false, false, false] = .ptr (h.size + 6) 0 2 ∧ h' = ⟨h.get, h.size, [.cells 0 5 [G n, G c, G r, G m, G d], .cells 0 2 [.nils, .nils], .cells 1 1 [G (-1)], .cells 1 N (cs1.set (n - 1).toNat (G c)), .cells 1 1 [G (n + m + 1)], .cells 1 N (cs2.set (n - 1).toNat (G r)), st47 h.size N]⟩) := Tr.region fun s h hp => by
    obtain ⟨g0, g1, g2, g3, rfl⟩ := hp
    simp (disch := first | omega | exact getEq rfl | exact getO0 | exact Nat.le_of_ble_eq_true rfl) [c47_o5, came_some, goI, List.getElem?_cons_zero, List.getElem?_cons_succ, kn, keep, frameOf, size_mk, get_mk_lt, get_mk_ge, Eff.app, Heap.setOwn, putAt, AV.cells, fillA, loadA, takeA, mk, Eff.isAll, Eff.isNone, Eff.commutes, Eff.spares, okPair, apart, eqAgg, fits, LK.fits, allEq, aveq, eqk, mmA, beqT, wrapI, idxI, tdivI, tmodI, decT, decF, ibT, ibF, inT, inF, evScope_c, if_pos, if_neg, g0, g1, g2, g3, l1, l2, nnT]
  exact t

theorem merge_6 (J : CallF) (h : Heap) (H : HM lot n c r m d) (N : Nat) (hN : (N : Int) = n + m) (cs1 cs2 : List AV) (l1 : cs1.length = N) (l2 : cs2.length = N) :
    Tr tbl J c47_o6 (fun s h' => s.get [false, false] = .ptr h.size 0 5 ∧ s.get [true, false] = .ptr (h.size + 1) 0 2 ∧ s.get [true, true] = G (n + m) ∧ s.get [false, false, false] = .ptr (h.size + 6) 0 2 ∧ h' = ⟨h.get, h.size, [.cells 0 5 [G n, G c, G r, G m, G d], .cells 0 2 [.nils, .nils], .cells 1 1 [G (-1)], .cells 1 N cs1, .cells 1 1 [G (n + m + 1)], .cells 1 N cs2, st47 h.size N]⟩) .normal
      (fun s h' => s.get [true, false] = .ptr (h.size + 1) 0 2 ∧ s.get [false, false, false] = .ptr (h.size + 6) 0 2 ∧ h' = ⟨h.get, h.size, [.cells 0 5 [G n, G c, G r, G m, G d], .cells 0 2 [.nils, .nils], .cells 1 1 [G (-1)], .cells 1 N (cs1.set (n + m - 1).toNat (G d)), .cells 1 1 [G (n + m + 1)], .cells 1 N (cs2.set (n + m - 1).toNat (G (d + 1))), st47 h.size N]⟩) := by
  obtain ⟨h1, h3, h4, h5, h6, h7⟩ := H
  have t : Tr tbl J (c47_o6) (fun s h' => s.get [false, false] = .ptr h.size 0 5 ∧ s.get [true, false] = .ptr (h.size + 1) 0 2 ∧ s.get [true, true] = G (n + m) ∧ s.get [false, false, false] = .ptr (h.size + 6) 0 2 ∧ h' = ⟨h.get, h.size, [.cells 0 5 [G n, G c, G r, G m, G d], .cells 0 2 [.nils, .nils], .cells 1 1 [G (-1)], .cells 1 N cs1, .cells 1 1 [G (n + m + 1)], .cells 1 N cs2, st47 h.size N]⟩) .normal (fun s h' => s.get [true, false] = .ptr (h.size + 1) 0 2 ∧ s.get [false, false, false] = .ptr (h.size + 6) 0 2 ∧ h' = ⟨h.get, h.size, [.cells 0 5 [G n, G c, G r, G m, G d], .cells 0 2 [.nils, .nils], .cells 1 1 [G (-1)], .cells 1 N (cs1.set (n + m - 1).toNat (G d)), .cells 1 1 [G (n + m + 1)], .cells 1 N (cs2.set (n + m - 1).toNat (G (d + 1))), st47 h.size N]⟩) := Tr.region fun s h hp => by
    obtain ⟨g0, g1, g2, g3, rfl⟩ := hp
    simp (disch := first | omega | exact getEq rfl | exact getO0 | exact Nat.le_of_ble_eq_true rfl) [c47_o6, came_some, goI, List.getElem?_cons_zero, List.getElem?_cons_succ, kn, keep, frameOf, size_mk, get_mk_lt, get_mk_ge, Eff.app, Heap.setOwn, putAt, AV.cells, fillA, loadA, takeA, mk, Eff.isAll, Eff.isNone, Eff.commutes, Eff.spares, okPair, apart, eqAgg, fits, LK.fits, allEq, aveq, eqk, mmA, beqT, wrapI, idxI, tdivI, tmodI, decT, decF, ibT, ibF, inT, inF, evScope_c, if_pos, if_neg, g0, g1, g2, g3, l1, l2, nnT]
  exact t

theorem c47_good (J : CallF) (K : Kn J) (k61 : ∀ (h : Heap) (b : Nat) (n x : Int) (hb : h.get b = .cells 1 1 [G x]) (h1 : 1 ≤ n) (h2 : n ≤ 60), J 61 [.slice b 0 1 1, G n] h = some (.slice h.size 0 n.toNat n.toNat, [.cells 1 n.toNat (List.replicate n.toNat (G x))], false)) (k66 : ∀ (h : Heap) (lot n c r m d : Int), 1 ≤ lot → lot ≤ 36 → J 66 [G lot, .agg [G n, G c, G r, G m, G d]] h = some (.bool (decide (dblOk lot n c r m d)), [], false)) (hJ : ∀ a h, J 47 a h = none) (h : Heap) (H : HM lot n c r m d) :
    CallsTo tbl J 47 [G lot, .agg [G n, G c, G r, G m, G d]] h (.tup [.agg [.slice (h.size + 3) 0 (n + m).toNat (n + m).toNat, .slice (h.size + 5) 0 (n + m).toNat (n + m).toNat], G 0], own47 h.size n c r m d, false) := by
  have hd : dblOk lot n c r m d := ⟨H.h3, H.h4, H.h5, H.h6, H.h7⟩
  have hl : lotOk lot 0 := ⟨H.h1, by have := H.h1; omega⟩
  have H' := H
  obtain ⟨h1, h3, h4, h5, h6, h7⟩ := H'
  refine Tr.fnh (cf := c47) (e := .ret) (s := T.set (T.set .leaf [] (G lot)) [false] (.agg [G n, G c, G r, G m, G d])) (by decide) rfl (hJ _ _) rfl rfl rfl (by simp) ?_
  have t0 : Tr tbl J (c47_o0) (fun s h' => s = T.set (T.set .leaf [] (G lot)) [false] (.agg [G n, G c, G r, G m, G d]) ∧ h' = frameOf h) .normal (fun s h' => s.get [] = G lot ∧ s.get [false, false] = .ptr h.size 0 5 ∧ s.get [true, false] = .ptr (h.size + 1) 0 2 ∧ h' = ⟨h.get, h.size, [.cells 0 5 [G n, G c, G r, G m, G d], .cells 0 2 [.nils, .nils]]⟩) := Tr.region fun s h hp => by
    obtain ⟨rfl, rfl⟩ := hp
    simp (disch := first | omega | exact getEq rfl | exact getO0 | exact Nat.le_of_ble_eq_true rfl) [c47_o0, came_some, goI, List.getElem?_cons_zero, List.getElem?_cons_succ, kn, keep, frameOf, size_mk, get_mk_lt, get_mk_ge, Eff.app, Heap.setOwn, putAt, AV.cells, fillA, loadA, takeA, mk, Eff.isAll, Eff.isNone, Eff.commutes, Eff.spares, okPair, apart, eqAgg, fits, LK.fits, allEq, aveq, eqk, mmA, beqT, wrapI, idxI, tdivI, tmodI, decT, decF, ibT, ibF, inT, inF, evScope_c, if_pos, if_neg]
  have t1 : Tr tbl J ((.seq c47_o1 (.cond (.s [true, false, false, false]) (.seq c47_o2 .ret) .skip))) (fun s h' => s.get [] = G lot ∧ s.get [false, false] = .ptr h.size 0 5 ∧ s.get [true, false] = .ptr (h.size + 1) 0 2 ∧ h' = ⟨h.get, h.size, [.cells 0 5 [G n, G c, G r, G m, G d], .cells 0 2 [.nils, .nils]]⟩) .normal (fun s h' => s.get [false, false] = .ptr h.size 0 5 ∧ s.get [true, false] = .ptr (h.size + 1) 0 2 ∧ h' = ⟨h.get, h.size, [.cells 0 5 [G n, G c, G r, G m, G d], .cells 0 2 [.nils, .nils]]⟩) := Tr.region fun s h hp => by
    obtain ⟨g0, g1, g2, rfl⟩ := hp
    simp (disch := first | omega | exact getEq rfl | exact getO0 | exact Nat.le_of_ble_eq_true rfl) [c47_o1, came_some, goI, List.getElem?_cons_zero, List.getElem?_cons_succ, kn, keep, frameOf, size_mk, get_mk_lt, get_mk_ge, Eff.app, Heap.setOwn, putAt, AV.cells, fillA, loadA, takeA, mk, Eff.isAll, Eff.isNone, Eff.commutes, Eff.spares, okPair, apart, eqAgg, fits, LK.fits, allEq, aveq, eqk, mmA, beqT, wrapI, idxI, tdivI, tmodI, decT, decF, ibT, ibF, inT, inF, evScope_c, if_pos, if_neg, g0, g1, g2, K.k52, k66, hl, hd]
  have t2 : Tr tbl J (c47_o3) (fun s h' => s.get [false, false] = .ptr h.size 0 5 ∧ s.get [true, false] = .ptr (h.size + 1) 0 2 ∧ h' = ⟨h.get, h.size, [.cells 0 5 [G n, G c, G r, G m, G d], .cells 0 2 [.nils, .nils]]⟩) .normal (fun s h' => s.get [false, false] = .ptr h.size 0 5 ∧ s.get [true, false] = .ptr (h.size + 1) 0 2 ∧ s.get [true, true] = G (n + m) ∧ h' = ⟨h.get, h.size, [.cells 0 5 [G n, G c, G r, G m, G d], .cells 0 2 [.nils, .nils]]⟩) := Tr.region fun s h hp => by
    obtain ⟨g0, g1, rfl⟩ := hp
    simp (disch := first | omega | exact getEq rfl | exact getO0 | exact Nat.le_of_ble_eq_true rfl) [c47_o3, came_some, goI, List.getElem?_cons_zero, List.getElem?_cons_succ, kn, keep, frameOf, size_mk, get_mk_lt, get_mk_ge, Eff.app, Heap.setOwn, putAt, AV.cells, fillA, loadA, takeA, mk, Eff.isAll, Eff.isNone, Eff.commutes, Eff.spares, okPair, apart, eqAgg, fits, LK.fits, allEq, aveq, eqk, mmA, beqT, wrapI, idxI, tdivI, tmodI, decT, decF, ibT, ibF, inT, inF, evScope_c, if_pos, if_neg, g0, g1]
  obtain ⟨N, hN⟩ : ∃ N, (n + m).toNat = N := ⟨_, rfl⟩
  have hN' : (N : Int) = n + m := by omega
  have k1 := k61 ⟨h.get, h.size, [.cells 0 5 [G n, G c, G r, G m, G d], .cells 0 2 [.nils, .nils], .cells 1 1 [G (-1)]]⟩ (h.size + 2) (n + m) (-1) (by rw [get_mk_ge _ _ _ _ (by omega), Nat.add_sub_cancel_left]; rfl) (by omega) (by omega)
  have k2 := k61 ⟨h.get, h.size, [.cells 0 5 [G n, G c, G r, G m, G d], .cells 0 2 [.nils, .nils], .cells 1 1 [G (-1)], .cells 1 N (List.replicate N (G (-1))), .cells 1 1 [G (n + m + 1)]]⟩ (h.size + 4) (n + m) (n + m + 1) (by rw [get_mk_ge _ _ _ _ (by omega), Nat.add_sub_cancel_left]; rfl) (by omega) (by omega)
  simp only [size_mk, List.length_cons, List.length_nil, hN] at k1 k2
  have t3 : Tr tbl J (c47_o4) (fun s h' => s.get [false, false] = .ptr h.size 0 5 ∧ s.get [true, false] = .ptr (h.size + 1) 0 2 ∧ s.get [true, true] = G (n + m) ∧ h' = ⟨h.get, h.size, [.cells 0 5 [G n, G c, G r, G m, G d], .cells 0 2 [.nils, .nils]]⟩) .normal (fun s h' => s.get [false, false] = .ptr h.size 0 5 ∧ s.get [true, false] = .ptr (h.size + 1) 0 2 ∧ s.get [true, true] = G (n + m) ∧ s.get [false, false, false] = .ptr (h.size + 6) 0 2 ∧ h' = ⟨h.get, h.size, [.cells 0 5 [G n, G c, G r, G m, G d], .cells 0 2 [.nils, .nils], .cells 1 1 [G (-1)], .cells 1 N (List.replicate N (G (-1))), .cells 1 1 [G (n + m + 1)], .cells 1 N (List.replicate N (G (n + m + 1))), st47 h.size N]⟩) := Tr.region fun s h hp => by
    obtain ⟨g0, g1, g2, rfl⟩ := hp
    simp (disch := first | omega | exact getEq rfl | exact getO0 | exact Nat.le_of_ble_eq_true rfl) [c47_o4, came_some, goI, List.getElem?_cons_zero, List.getElem?_cons_succ, kn, keep, frameOf, size_mk, get_mk_lt, get_mk_ge, Eff.app, Heap.setOwn, putAt, AV.cells, fillA, loadA, takeA, mk, Eff.isAll, Eff.isNone, Eff.commutes, Eff.spares, okPair, apart, eqAgg, fits, LK.fits, allEq, aveq, eqk, mmA, beqT, wrapI, idxI, tdivI, tmodI, decT, decF, ibT, ibF, inT, inF, evScope_c, if_pos, if_neg, g0, g1, g2, k1, k2]
  have t4 := merge_5 J h H N hN' (List.replicate N (G (-1))) (List.replicate N (G (n + m + 1))) (by simp) (by simp)
  have t5 := merge_6 J h H N hN' ((List.replicate N (G (-1))).set (n - 1).toNat (G c)) ((List.replicate N (G (n + m + 1))).set (n - 1).toNat (G r)) (by simp) (by simp)
  have e1 := merge_list (n := n) (m := m) (-1) c d (mA n c m d) h3.1 h4.1 (fun i => rfl)
  have e2 := merge_list (n := n) (m := m) (n + m + 1) r (d + 1) (mR n r m d) h3.1 h4.1 (fun i => rfl)
  rw [hN] at e1 e2
  rw [e1, e2] at t5
  unfold own47
  rw [hN]
  generalize zs (mA n c m d) N = z1 at *
  generalize zs (mR n r m d) N = z2 at *
  have t6 : Tr tbl J ((.seq c47_o7 .ret)) (fun s h' => s.get [true, false] = .ptr (h.size + 1) 0 2 ∧ s.get [false, false, false] = .ptr (h.size + 6) 0 2 ∧ h' = ⟨h.get, h.size, [.cells 0 5 [G n, G c, G r, G m, G d], .cells 0 2 [.nils, .nils], .cells 1 1 [G (-1)], .cells 1 N z1, .cells 1 1 [G (n + m + 1)], .cells 1 N z2, st47 h.size N]⟩) .ret (fun s h' => s.get [true, false] = .ptr (h.size + 1) 0 2 ∧ s.get [false, true] = G 0 ∧ h' = ⟨h.get, h.size, [.cells 0 5 [G n, G c, G r, G m, G d], st47 h.size N, .cells 1 1 [G (-1)], .cells 1 N z1, .cells 1 1 [G (n + m + 1)], .cells 1 N z2, st47 h.size N]⟩) := Tr.region fun s h hp => by
    obtain ⟨g0, g1, rfl⟩ := hp
    simp (disch := first | omega | exact getEq rfl | exact getO0 | exact Nat.le_of_ble_eq_true rfl) [c47_o7, came_some, goI, List.getElem?_cons_zero, List.getElem?_cons_succ, kn, keep, frameOf, size_mk, get_mk_lt, get_mk_ge, Eff.app, Heap.setOwn, putAt, AV.cells, fillA, loadA, takeA, mk, Eff.isAll, Eff.isNone, Eff.commutes, Eff.spares, okPair, apart, eqAgg, fits, LK.fits, allEq, aveq, eqk, mmA, beqT, wrapI, idxI, tdivI, tmodI, decT, decF, ibT, ibF, inT, inF, evScope_c, if_pos, if_neg, g0, g1]
  refine Tr.post (fun s h' q => ?_) (Tr.seq t0 (Tr.seq t1 (Tr.seq t2 (Tr.seq t3 (Tr.seq t4 (Tr.seq t5 t6))))))
  obtain ⟨q1, q2, rfl⟩ := q
  simp [c47, q1, q2, loadA, get_mk_ge, takeA]

theorem c47_bad (J : CallF) (K : Kn J) (k66 : ∀ (h : Heap) (lot n c r m d : Int), 1 ≤ lot → lot ≤ 36 → J 66 [G lot, .agg [G n, G c, G r, G m, G d]] h = some (.bool (decide (dblOk lot n c r m d)), [], false)) (hJ : ∀ a h, J 47 a h = none) (h : Heap) (hp : ¬ (lotOk lot 0 ∧ dblOk lot n c r m d)) :
    CallsTo tbl J 47 [G lot, .agg [G n, G c, G r, G m, G d]] h (.tup [.agg [.nils, .nils], G 2], [], false) := by
  refine Tr.fnv (cf := c47) (e := .ret) (s := T.set (T.set .leaf [] (G lot)) [false] (.agg [G n, G c, G r, G m, G d])) (by decide) rfl (hJ _ _) rfl rfl rfl (by simp) ?_
  have t0 : Tr tbl J (c47_o0) (fun s h' => s = T.set (T.set .leaf [] (G lot)) [false] (.agg [G n, G c, G r, G m, G d]) ∧ h' = frameOf h) .normal (fun s h' => s.get [] = G lot ∧ s.get [false, false] = .ptr h.size 0 5 ∧ s.get [true, false] = .ptr (h.size + 1) 0 2 ∧ h' = ⟨h.get, h.size, [.cells 0 5 [G n, G c, G r, G m, G d], .cells 0 2 [.nils, .nils]]⟩) := Tr.region fun s h hp => by
    obtain ⟨rfl, rfl⟩ := hp
    simp (disch := first | omega | exact getEq rfl | exact getO0 | exact Nat.le_of_ble_eq_true rfl) [c47_o0, came_some, goI, List.getElem?_cons_zero, List.getElem?_cons_succ, kn, keep, frameOf, size_mk, get_mk_lt, get_mk_ge, Eff.app, Heap.setOwn, putAt, AV.cells, fillA, loadA, takeA, mk, Eff.isAll, Eff.isNone, Eff.commutes, Eff.spares, okPair, apart, eqAgg, fits, LK.fits, allEq, aveq, eqk, mmA, beqT, wrapI, idxI, tdivI, tmodI, decT, decF, ibT, ibF, inT, inF, evScope_c, if_pos, if_neg]
  have t1 : Tr tbl J (.seq c47_o1 (.cond (.s [true, false, false, false]) (.seq c47_o2 .ret) .skip)) (fun s h' => s.get [] = G lot ∧ s.get [false, false] = .ptr h.size 0 5 ∧ s.get [true, false] = .ptr (h.size + 1) 0 2 ∧ h' = ⟨h.get, h.size, [.cells 0 5 [G n, G c, G r, G m, G d], .cells 0 2 [.nils, .nils]]⟩) .ret (fun s h' => s.get [true, false] = .ptr (h.size + 1) 0 2 ∧ s.get [false, true] = G 2 ∧ h' = ⟨h.get, h.size, [.cells 0 5 [G n, G c, G r, G m, G d], .cells 0 2 [.nils, .nils]]⟩) := by
    by_cases x : lotOk lot 0
    · have hd : ¬ dblOk lot n c r m d := fun y => hp ⟨x, y⟩
      have x' := x
      obtain ⟨⟨l1, l2⟩, _⟩ := x'
      have t : Tr tbl J ((.seq c47_o1 (.cond (.s [true, false, false, false]) (.seq c47_o2 .ret) .skip))) (fun s h' => s.get [] = G lot ∧ s.get [false, false] = .ptr h.size 0 5 ∧ s.get [true, false] = .ptr (h.size + 1) 0 2 ∧ h' = ⟨h.get, h.size, [.cells 0 5 [G n, G c, G r, G m, G d], .cells 0 2 [.nils, .nils]]⟩) .ret (fun s h' => s.get [true, false] = .ptr (h.size + 1) 0 2 ∧ s.get [false, true] = G 2 ∧ h' = ⟨h.get, h.size, [.cells 0 5 [G n, G c, G r, G m, G d], .cells 0 2 [.nils, .nils]]⟩) := Tr.region fun s h hp => by
        obtain ⟨g0, g1, g2, rfl⟩ := hp
        simp (disch := first | omega | exact getEq rfl | exact getO0 | exact Nat.le_of_ble_eq_true rfl) [c47_o1, c47_o2, came_some, goI, List.getElem?_cons_zero, List.getElem?_cons_succ, kn, keep, frameOf, size_mk, get_mk_lt, get_mk_ge, Eff.app, Heap.setOwn, putAt, AV.cells, fillA, loadA, takeA, mk, Eff.isAll, Eff.isNone, Eff.commutes, Eff.spares, okPair, apart, eqAgg, fits, LK.fits, allEq, aveq, eqk, mmA, beqT, wrapI, idxI, tdivI, tmodI, decT, decF, ibT, ibF, inT, inF, evScope_c, if_pos, if_neg, g0, g1, g2, K.k52, k66, x, hd]
      exact t
    ·
      have t : Tr tbl J ((.seq c47_o1 (.cond (.s [true, false, false, false]) (.seq c47_o2 .ret) .skip))) (fun s h' => s.get [] = G lot ∧ s.get [false, false] = .ptr h.size 0 5 ∧ s.get [true, false] = .ptr (h.size + 1) 0 2 ∧ h' = ⟨h.get, h.size, [.cells 0 5 [G n, G c, G r, G m, G d], .cells 0 2 [.nils, .nils]]⟩) .ret (fun s h' => s.get [true, false] = .ptr (h.size + 1) 0 2 ∧ s.get [false, true] = G 2 ∧ h' = ⟨h.get, h.size, [.cells 0 5 [G n, G c, G r, G m, G d], .cells 0 2 [.nils, .nils]]⟩) := Tr.region fun s h hp => by
        obtain ⟨g0, g1, g2, rfl⟩ := hp
        simp (disch := first | omega | exact getEq rfl | exact getO0 | exact Nat.le_of_ble_eq_true rfl) [c47_o1, c47_o2, came_some, goI, List.getElem?_cons_zero, List.getElem?_cons_succ, kn, keep, frameOf, size_mk, get_mk_lt, get_mk_ge, Eff.app, Heap.setOwn, putAt, AV.cells, fillA, loadA, takeA, mk, Eff.isAll, Eff.isNone, Eff.commutes, Eff.spares, okPair, apart, eqAgg, fits, LK.fits, allEq, aveq, eqk, mmA, beqT, wrapI, idxI, tdivI, tmodI, decT, decF, ibT, ibF, inT, inF, evScope_c, if_pos, if_neg, g0, g1, g2, K.k52, x]
      exact t
  refine Tr.post (fun s h q => ?_) (Tr.seq t0 (Tr.seq_out t1 (by simp)))
  obtain ⟨q1, q2, rfl⟩ := q
  simp [c47, q1, q2, loadA, get_mk_ge, takeA]
end

end Go.Proofs.Ytlkgpcfhpeilhaa.Ev
