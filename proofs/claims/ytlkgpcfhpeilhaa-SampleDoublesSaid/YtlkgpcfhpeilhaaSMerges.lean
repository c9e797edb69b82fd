/-
  What the reference's Merges answers of a merged course: it does as the double plan does. No condition.
-/
import Derived.Test.YtlkgpcfhpeilhaaSDec
set_option linter.unusedVariables false
set_option linter.unusedSimpArgs false
namespace Go.Proofs.Ytlkgpcfhpeilhaa.Ev
open Go Go.AEv

attribute [local simp] evFunc initS evOps_c evTrim_c evSkip_c evExit_c evRet_c evSeq_c evCond_c evBlock_c evDraw_c runOps_n runOps_c exec_n exec_g pure1_c act AOpd.ev T.get T.set T.put evBin evUn forceT_eq forceV_eq forceL_eq evRess evRes one keep runFP_n runFP_c app_none AV.flats AV.flat

structure HMs (n c r m d : Int) (N : Nat) : Prop where
  h1 : (N : Int) = n + m
  h2 : N ≤ 36
  h3 : 1 ≤ n
  h4 : 1 ≤ m
  h5 : 0 ≤ c ∧ c ≤ n
  h6 : c + 2 ≤ r ∧ r ≤ n + 1
  h7 : r - 1 ≤ d ∧ d ≤ n + m - 1
structure MF (S : Nat) (h : Heap) (bA bR N : Nat) (n c r m d : Int) : Prop where
  n0 : h.N = S
  lA : bA < S
  lR : bR < S
  fp : h.get S = .cells 0 5 [G n, G c, G r, G m, G d]
  fc : h.get (S + 1) = .cells 0 2 [.slice bA 0 N N, .slice bR 0 N N]
  fa : h.get bA = .cells 1 N (zs (mA n c m d) N)
  fr : h.get bR = .cells 1 N (zs (mR n r m d) N)
theorem MF.plus {S : Nat} {h : Heap} {bA bR N : Nat} {n c r m d : Int} (x : MF S h bA bR N n c r m d) (xs : List AObj) : MF S (h.plus xs) bA bR N n c r m d :=
  ⟨x.n0, x.lA, x.lR, plus_keep xs x.fp (by simp), plus_keep xs x.fc (by simp), plus_keep xs x.fa (by simp), plus_keep xs x.fr (by simp)⟩
theorem MF.upd {S : Nat} {h : Heap} {bA bR N : Nat} {n c r m d : Int} (x : MF S h bA bR N n c r m d) {b : Nat} (hb : S + 2 ≤ b) (y : AObj) : MF S (h.upd b y) bA bR N n c r m d := by
  have h0 := x.n0
  have h1 := x.lA
  have h2 := x.lR
  exact ⟨x.n0, x.lA, x.lR, by rw [upd_ne _ _ _ _ (by omega) (by omega)]; exact x.fp, by rw [upd_ne _ _ _ _ (by omega) (by omega)]; exact x.fc, by rw [upd_ne _ _ _ _ (by omega) (by omega)]; exact x.fa, by rw [upd_ne _ _ _ _ (by omega) (by omega)]; exact x.fr⟩
/-- A block of i bools. -/
structure OB (h : Heap) (b i : Nat) (cs : List AV) : Prop where
  g : h.get b = .cells 1 i cs
  l : cs.length = i
  e : ∀ j, j < i → ∃ x : Bool, cs[j]? = some (.bool x)
theorem OB.plus {h : Heap} {b i : Nat} {cs : List AV} (x : OB h b i cs) (xs : List AObj) : OB (h.plus xs) b i cs := ⟨plus_keep xs x.g (by simp), x.l, x.e⟩
theorem OB.set {h : Heap} {b i k : Nat} {cs : List AV} (x : OB h b i cs) (hN : h.N ≤ b) (hk : k < i) (z : Bool) : OB (h.upd b (.cells 1 i (cs.set k (.bool z)))) b i (cs.set k (.bool z)) := by
  refine ⟨upd_same _ _ _ hN (get_lt x.g (by simp)), by simp [x.l], fun j hj => ?_⟩
  by_cases h : k = j
  · subst h; exact ⟨z, by rw [List.getElem?_set_self (by rw [x.l]; exact hk)]⟩
  · obtain ⟨y, hy⟩ := x.e j hj
    exact ⟨y, by rw [List.getElem?_set_ne h]; exact hy⟩
theorem OB.ne {h : Heap} {b b' i : Nat} {cs : List AV} (x : OB h b i cs) (hN : h.N ≤ b') (hb : b' ≠ b) (y : AObj) : OB (h.upd b' y) b i cs := ⟨by rw [upd_ne _ _ _ _ hN hb]; exact x.g, x.l, x.e⟩

section
variable {S bA bR N b6 b8 i0 k : Nat} {n c r m d : Int} {cs6 cs8 : List AV}
abbrev F49 (S N b6 b8 i0 k : Nat) (H : Heap) : SP := (fun s h => s.get [true] = .ptr S 0 5 ∧ s.get [false, false] = .ptr (S + 1) 0 2 ∧ s.get [false, true] = G N ∧ s.get [true, true] = .slice b6 0 (i0 + 1) (i0 + 1) ∧ s.get [false, false, false] = G ((i0 + 1 : Nat) : Int) ∧ s.get [true, false, false] = .slice b8 0 (i0 + 2) (i0 + 2) ∧ s.get [false, true, false] = G k ∧ h = H)

theorem ms_a (J : CallF) (H : Heap) (o6 : OB H b6 (i0 + 1) cs6) (hN : N ≤ 36) (hi : i0 < N) (hk : k ≤ i0 + 1) : Tr tbl J (.seq c49_o8 (.cond (.s [true, true, false, false, true]) (.exit 3) .skip)) (F49 S N b6 b8 i0 k H) (.exit 3) (F49 S N b6 b8 i0 k H) ∨ Tr tbl J (.seq c49_o8 (.cond (.s [true, true, false, false, true]) (.exit 3) .skip)) (F49 S N b6 b8 i0 k H) .normal (F49 S N b6 b8 i0 k H) := by
  have m6 := o6.g
  have xk := fun hx => o6.e k hx
  have yk := fun hx => o6.e (k - 1) hx
  clear o6
  have ek : ((k : Int) - 1).toNat = k - 1 := by omega
  by_cases h1 : k < i0 + 1
  · obtain ⟨x, hx⟩ := xk h1
    by_cases h0 : k = 0
    · subst h0
      cases x
      · left
        have t : Tr tbl J ((.seq c49_o8 (.cond (.s [true, true, false, false, true]) (.exit 3) .skip))) (fun s h => s.get [true] = .ptr S 0 5 ∧ s.get [false, false] = .ptr (S + 1) 0 2 ∧ s.get [false, true] = G N ∧ s.get [true, true] = .slice b6 0 (i0 + 1) (i0 + 1) ∧ s.get [false, false, false] = G ((i0 + 1 : Nat) : Int) ∧ s.get [true, false, false] = .slice b8 0 (i0 + 2) (i0 + 2) ∧ s.get [false, true, false] = G ((0 : Nat) : Int) ∧ h = H) (.exit 3) (fun s h => s.get [true] = .ptr S 0 5 ∧ s.get [false, false] = .ptr (S + 1) 0 2 ∧ s.get [false, true] = G N ∧ s.get [true, true] = .slice b6 0 (i0 + 1) (i0 + 1) ∧ s.get [false, false, false] = G ((i0 + 1 : Nat) : Int) ∧ s.get [true, false, false] = .slice b8 0 (i0 + 2) (i0 + 2) ∧ s.get [false, true, false] = G ((0 : Nat) : Int) ∧ h = H) := Tr.region fun s h hp => by
          obtain ⟨g0, g1, g2, g3, g4, g5, g6, rfl⟩ := hp
          simp (disch := first | omega | exact getEq rfl | exact getO0 | exact Nat.le_of_ble_eq_true rfl) [c49_o8, came_some, goI, List.getElem?_cons_zero, List.getElem?_cons_succ, kn, keep, app_growP, app_noneP, plus_N, plus_at0, put_plus0, upd_N, upd_size, putAt, AV.cells, fillA, loadA, takeA, mk, Eff.isAll, Eff.isNone, Eff.commutes, Eff.spares, okPair, apart, eqAgg, fits, LK.fits, allEq, aveq, eqk, mmA, beqT, wrapI, idxI, tdivI, tmodI, decT, decF, ibT, ibF, inT, inF, evScope_c, if_pos, if_neg, g0, g1, g2, g3, g4, g5, g6, m6, hx]
        exact t
      · right
        have t : Tr tbl J ((.seq c49_o8 (.cond (.s [true, true, false, false, true]) (.exit 3) .skip))) (fun s h => s.get [true] = .ptr S 0 5 ∧ s.get [false, false] = .ptr (S + 1) 0 2 ∧ s.get [false, true] = G N ∧ s.get [true, true] = .slice b6 0 (i0 + 1) (i0 + 1) ∧ s.get [false, false, false] = G ((i0 + 1 : Nat) : Int) ∧ s.get [true, false, false] = .slice b8 0 (i0 + 2) (i0 + 2) ∧ s.get [false, true, false] = G ((0 : Nat) : Int) ∧ h = H) .normal (fun s h => s.get [true] = .ptr S 0 5 ∧ s.get [false, false] = .ptr (S + 1) 0 2 ∧ s.get [false, true] = G N ∧ s.get [true, true] = .slice b6 0 (i0 + 1) (i0 + 1) ∧ s.get [false, false, false] = G ((i0 + 1 : Nat) : Int) ∧ s.get [true, false, false] = .slice b8 0 (i0 + 2) (i0 + 2) ∧ s.get [false, true, false] = G ((0 : Nat) : Int) ∧ h = H) := Tr.region fun s h hp => by
          obtain ⟨g0, g1, g2, g3, g4, g5, g6, rfl⟩ := hp
          simp (disch := first | omega | exact getEq rfl | exact getO0 | exact Nat.le_of_ble_eq_true rfl) [c49_o8, came_some, goI, List.getElem?_cons_zero, List.getElem?_cons_succ, kn, keep, app_growP, app_noneP, plus_N, plus_at0, put_plus0, upd_N, upd_size, putAt, AV.cells, fillA, loadA, takeA, mk, Eff.isAll, Eff.isNone, Eff.commutes, Eff.spares, okPair, apart, eqAgg, fits, LK.fits, allEq, aveq, eqk, mmA, beqT, wrapI, idxI, tdivI, tmodI, decT, decF, ibT, ibF, inT, inF, evScope_c, if_pos, if_neg, g0, g1, g2, g3, g4, g5, g6, m6, hx]
        exact t
    · obtain ⟨y, hy⟩ := yk (by omega)
      cases x
      · cases y
        · left
          have t : Tr tbl J ((.seq c49_o8 (.cond (.s [true, true, false, false, true]) (.exit 3) .skip))) (fun s h => s.get [true] = .ptr S 0 5 ∧ s.get [false, false] = .ptr (S + 1) 0 2 ∧ s.get [false, true] = G N ∧ s.get [true, true] = .slice b6 0 (i0 + 1) (i0 + 1) ∧ s.get [false, false, false] = G ((i0 + 1 : Nat) : Int) ∧ s.get [true, false, false] = .slice b8 0 (i0 + 2) (i0 + 2) ∧ s.get [false, true, false] = G k ∧ h = H) (.exit 3) (fun s h => s.get [true] = .ptr S 0 5 ∧ s.get [false, false] = .ptr (S + 1) 0 2 ∧ s.get [false, true] = G N ∧ s.get [true, true] = .slice b6 0 (i0 + 1) (i0 + 1) ∧ s.get [false, false, false] = G ((i0 + 1 : Nat) : Int) ∧ s.get [true, false, false] = .slice b8 0 (i0 + 2) (i0 + 2) ∧ s.get [false, true, false] = G k ∧ h = H) := Tr.region fun s h hp => by
            obtain ⟨g0, g1, g2, g3, g4, g5, g6, rfl⟩ := hp
            simp (disch := first | omega | exact getEq rfl | exact getO0 | exact Nat.le_of_ble_eq_true rfl) [c49_o8, came_some, goI, List.getElem?_cons_zero, List.getElem?_cons_succ, kn, keep, app_growP, app_noneP, plus_N, plus_at0, put_plus0, upd_N, upd_size, putAt, AV.cells, fillA, loadA, takeA, mk, Eff.isAll, Eff.isNone, Eff.commutes, Eff.spares, okPair, apart, eqAgg, fits, LK.fits, allEq, aveq, eqk, mmA, beqT, wrapI, idxI, tdivI, tmodI, decT, decF, ibT, ibF, inT, inF, evScope_c, if_pos, if_neg, g0, g1, g2, g3, g4, g5, g6, m6, hx, hy, ek]
          exact t
        · right
          have t : Tr tbl J ((.seq c49_o8 (.cond (.s [true, true, false, false, true]) (.exit 3) .skip))) (fun s h => s.get [true] = .ptr S 0 5 ∧ s.get [false, false] = .ptr (S + 1) 0 2 ∧ s.get [false, true] = G N ∧ s.get [true, true] = .slice b6 0 (i0 + 1) (i0 + 1) ∧ s.get [false, false, false] = G ((i0 + 1 : Nat) : Int) ∧ s.get [true, false, false] = .slice b8 0 (i0 + 2) (i0 + 2) ∧ s.get [false, true, false] = G k ∧ h = H) .normal (fun s h => s.get [true] = .ptr S 0 5 ∧ s.get [false, false] = .ptr (S + 1) 0 2 ∧ s.get [false, true] = G N ∧ s.get [true, true] = .slice b6 0 (i0 + 1) (i0 + 1) ∧ s.get [false, false, false] = G ((i0 + 1 : Nat) : Int) ∧ s.get [true, false, false] = .slice b8 0 (i0 + 2) (i0 + 2) ∧ s.get [false, true, false] = G k ∧ h = H) := Tr.region fun s h hp => by
            obtain ⟨g0, g1, g2, g3, g4, g5, g6, rfl⟩ := hp
            simp (disch := first | omega | exact getEq rfl | exact getO0 | exact Nat.le_of_ble_eq_true rfl) [c49_o8, came_some, goI, List.getElem?_cons_zero, List.getElem?_cons_succ, kn, keep, app_growP, app_noneP, plus_N, plus_at0, put_plus0, upd_N, upd_size, putAt, AV.cells, fillA, loadA, takeA, mk, Eff.isAll, Eff.isNone, Eff.commutes, Eff.spares, okPair, apart, eqAgg, fits, LK.fits, allEq, aveq, eqk, mmA, beqT, wrapI, idxI, tdivI, tmodI, decT, decF, ibT, ibF, inT, inF, evScope_c, if_pos, if_neg, g0, g1, g2, g3, g4, g5, g6, m6, hx, hy, ek]
          exact t
      · right
        have t : Tr tbl J ((.seq c49_o8 (.cond (.s [true, true, false, false, true]) (.exit 3) .skip))) (fun s h => s.get [true] = .ptr S 0 5 ∧ s.get [false, false] = .ptr (S + 1) 0 2 ∧ s.get [false, true] = G N ∧ s.get [true, true] = .slice b6 0 (i0 + 1) (i0 + 1) ∧ s.get [false, false, false] = G ((i0 + 1 : Nat) : Int) ∧ s.get [true, false, false] = .slice b8 0 (i0 + 2) (i0 + 2) ∧ s.get [false, true, false] = G k ∧ h = H) .normal (fun s h => s.get [true] = .ptr S 0 5 ∧ s.get [false, false] = .ptr (S + 1) 0 2 ∧ s.get [false, true] = G N ∧ s.get [true, true] = .slice b6 0 (i0 + 1) (i0 + 1) ∧ s.get [false, false, false] = G ((i0 + 1 : Nat) : Int) ∧ s.get [true, false, false] = .slice b8 0 (i0 + 2) (i0 + 2) ∧ s.get [false, true, false] = G k ∧ h = H) := Tr.region fun s h hp => by
          obtain ⟨g0, g1, g2, g3, g4, g5, g6, rfl⟩ := hp
          simp (disch := first | omega | exact getEq rfl | exact getO0 | exact Nat.le_of_ble_eq_true rfl) [c49_o8, came_some, goI, List.getElem?_cons_zero, List.getElem?_cons_succ, kn, keep, app_growP, app_noneP, plus_N, plus_at0, put_plus0, upd_N, upd_size, putAt, AV.cells, fillA, loadA, takeA, mk, Eff.isAll, Eff.isNone, Eff.commutes, Eff.spares, okPair, apart, eqAgg, fits, LK.fits, allEq, aveq, eqk, mmA, beqT, wrapI, idxI, tdivI, tmodI, decT, decF, ibT, ibF, inT, inF, evScope_c, if_pos, if_neg, g0, g1, g2, g3, g4, g5, g6, m6, hx, hy, ek]
        exact t
  · obtain rfl : k = i0 + 1 := by omega
    obtain ⟨y, hy⟩ := yk (by omega)
    simp only [Nat.add_sub_cancel] at hy ek
    cases y
    · left
      have t : Tr tbl J ((.seq c49_o8 (.cond (.s [true, true, false, false, true]) (.exit 3) .skip))) (fun s h => s.get [true] = .ptr S 0 5 ∧ s.get [false, false] = .ptr (S + 1) 0 2 ∧ s.get [false, true] = G N ∧ s.get [true, true] = .slice b6 0 (i0 + 1) (i0 + 1) ∧ s.get [false, false, false] = G ((i0 + 1 : Nat) : Int) ∧ s.get [true, false, false] = .slice b8 0 (i0 + 2) (i0 + 2) ∧ s.get [false, true, false] = G ((i0 + 1 : Nat) : Int) ∧ h = H) (.exit 3) (fun s h => s.get [true] = .ptr S 0 5 ∧ s.get [false, false] = .ptr (S + 1) 0 2 ∧ s.get [false, true] = G N ∧ s.get [true, true] = .slice b6 0 (i0 + 1) (i0 + 1) ∧ s.get [false, false, false] = G ((i0 + 1 : Nat) : Int) ∧ s.get [true, false, false] = .slice b8 0 (i0 + 2) (i0 + 2) ∧ s.get [false, true, false] = G ((i0 + 1 : Nat) : Int) ∧ h = H) := Tr.region fun s h hp => by
        obtain ⟨g0, g1, g2, g3, g4, g5, g6, rfl⟩ := hp
        simp (disch := first | omega | exact getEq rfl | exact getO0 | exact Nat.le_of_ble_eq_true rfl) [c49_o8, came_some, goI, List.getElem?_cons_zero, List.getElem?_cons_succ, kn, keep, app_growP, app_noneP, plus_N, plus_at0, put_plus0, upd_N, upd_size, putAt, AV.cells, fillA, loadA, takeA, mk, Eff.isAll, Eff.isNone, Eff.commutes, Eff.spares, okPair, apart, eqAgg, fits, LK.fits, allEq, aveq, eqk, mmA, beqT, wrapI, idxI, tdivI, tmodI, decT, decF, ibT, ibF, inT, inF, evScope_c, if_pos, if_neg, g0, g1, g2, g3, g4, g5, g6, m6, hy, ek]
      exact t
    · right
      have t : Tr tbl J ((.seq c49_o8 (.cond (.s [true, true, false, false, true]) (.exit 3) .skip))) (fun s h => s.get [true] = .ptr S 0 5 ∧ s.get [false, false] = .ptr (S + 1) 0 2 ∧ s.get [false, true] = G N ∧ s.get [true, true] = .slice b6 0 (i0 + 1) (i0 + 1) ∧ s.get [false, false, false] = G ((i0 + 1 : Nat) : Int) ∧ s.get [true, false, false] = .slice b8 0 (i0 + 2) (i0 + 2) ∧ s.get [false, true, false] = G ((i0 + 1 : Nat) : Int) ∧ h = H) .normal (fun s h => s.get [true] = .ptr S 0 5 ∧ s.get [false, false] = .ptr (S + 1) 0 2 ∧ s.get [false, true] = G N ∧ s.get [true, true] = .slice b6 0 (i0 + 1) (i0 + 1) ∧ s.get [false, false, false] = G ((i0 + 1 : Nat) : Int) ∧ s.get [true, false, false] = .slice b8 0 (i0 + 2) (i0 + 2) ∧ s.get [false, true, false] = G ((i0 + 1 : Nat) : Int) ∧ h = H) := Tr.region fun s h hp => by
        obtain ⟨g0, g1, g2, g3, g4, g5, g6, rfl⟩ := hp
        simp (disch := first | omega | exact getEq rfl | exact getO0 | exact Nat.le_of_ble_eq_true rfl) [c49_o8, came_some, goI, List.getElem?_cons_zero, List.getElem?_cons_succ, kn, keep, app_growP, app_noneP, plus_N, plus_at0, put_plus0, upd_N, upd_size, putAt, AV.cells, fillA, loadA, takeA, mk, Eff.isAll, Eff.isNone, Eff.commutes, Eff.spares, okPair, apart, eqAgg, fits, LK.fits, allEq, aveq, eqk, mmA, beqT, wrapI, idxI, tdivI, tmodI, decT, decF, ibT, ibF, inT, inF, evScope_c, if_pos, if_neg, g0, g1, g2, g3, g4, g5, g6, m6, hy, ek]
      exact t

theorem ms_b1 (J : CallF) (H : Heap) (hm : HMs n c r m d N) (mf : MF S H bA bR N n c r m d) (hi : i0 < N) (hk : k ≤ i0 + 1) : Tr tbl J (.seq c49_o9 (.seq c49_o10 (.cond (.s [false, false, false, true, false, false]) c49_o11 (.seq c49_o12 (.cond (.s [true, true, true, false, true, false]) c49_o13 .skip))))) (F49 S N b6 b8 i0 k H) .normal (fun s h => s.get [true] = .ptr S 0 5 ∧ s.get [false, false] = .ptr (S + 1) 0 2 ∧ s.get [false, true] = G N ∧ s.get [true, true] = .slice b6 0 (i0 + 1) (i0 + 1) ∧ s.get [false, false, false] = G ((i0 + 1 : Nat) : Int) ∧ s.get [true, false, false] = .slice b8 0 (i0 + 2) (i0 + 2) ∧ s.get [false, true, false] = G k ∧ s.get [true, true, false] = G (decZ (mA n c m d i0) (mR n r m d i0) k) ∧ h = H) := by
  obtain ⟨h1, h2, h3, h4, h5, h6, h7⟩ := hm
  have fp := mf.fp
  clear mf
  by_cases a1 : (i0 : Int) = n + m - 1
  · have ea : mA n c m d i0 = d := by unfold mA; rw [if_pos a1]
    have er : mR n r m d i0 = d + 1 := by unfold mR; rw [if_pos a1]
    rw [ea, er]
    by_cases a2 : (k : Int) ≤ d
    · have e : decZ d (d + 1) k = 1 := by unfold decZ; rw [if_pos a2]
      rw [e]
      have t : Tr tbl J ((.seq c49_o9 (.seq c49_o10 (.cond (.s [false, false, false, true, false, false]) c49_o11 (.seq c49_o12 (.cond (.s [true, true, true, false, true, false]) c49_o13 .skip)))))) (fun s h => s.get [true] = .ptr S 0 5 ∧ s.get [false, false] = .ptr (S + 1) 0 2 ∧ s.get [false, true] = G N ∧ s.get [true, true] = .slice b6 0 (i0 + 1) (i0 + 1) ∧ s.get [false, false, false] = G ((i0 + 1 : Nat) : Int) ∧ s.get [true, false, false] = .slice b8 0 (i0 + 2) (i0 + 2) ∧ s.get [false, true, false] = G k ∧ h = H) .normal (fun s h => s.get [true] = .ptr S 0 5 ∧ s.get [false, false] = .ptr (S + 1) 0 2 ∧ s.get [false, true] = G N ∧ s.get [true, true] = .slice b6 0 (i0 + 1) (i0 + 1) ∧ s.get [false, false, false] = G ((i0 + 1 : Nat) : Int) ∧ s.get [true, false, false] = .slice b8 0 (i0 + 2) (i0 + 2) ∧ s.get [false, true, false] = G k ∧ s.get [true, true, false] = G 1 ∧ h = H) := Tr.region fun s h hp => by
        obtain ⟨g0, g1, g2, g3, g4, g5, g6, rfl⟩ := hp
        simp (disch := first | omega | exact getEq rfl | exact getO0 | exact Nat.le_of_ble_eq_true rfl) [c49_o9, c49_o10, c49_o11, c49_o12, c49_o13, came_some, goI, List.getElem?_cons_zero, List.getElem?_cons_succ, kn, keep, app_growP, app_noneP, plus_N, plus_at0, put_plus0, upd_N, upd_size, putAt, AV.cells, fillA, loadA, takeA, mk, Eff.isAll, Eff.isNone, Eff.commutes, Eff.spares, okPair, apart, eqAgg, fits, LK.fits, allEq, aveq, eqk, mmA, beqT, wrapI, idxI, tdivI, tmodI, decT, decF, ibT, ibF, inT, inF, evScope_c, if_pos, if_neg, g0, g1, g2, g3, g4, g5, g6, fp]
      exact t
    · have e : decZ d (d + 1) k = -1 := by unfold decZ; rw [if_neg a2, if_pos (by omega)]
      rw [e]
      have t : Tr tbl J ((.seq c49_o9 (.seq c49_o10 (.cond (.s [false, false, false, true, false, false]) c49_o11 (.seq c49_o12 (.cond (.s [true, true, true, false, true, false]) c49_o13 .skip)))))) (fun s h => s.get [true] = .ptr S 0 5 ∧ s.get [false, false] = .ptr (S + 1) 0 2 ∧ s.get [false, true] = G N ∧ s.get [true, true] = .slice b6 0 (i0 + 1) (i0 + 1) ∧ s.get [false, false, false] = G ((i0 + 1 : Nat) : Int) ∧ s.get [true, false, false] = .slice b8 0 (i0 + 2) (i0 + 2) ∧ s.get [false, true, false] = G k ∧ h = H) .normal (fun s h => s.get [true] = .ptr S 0 5 ∧ s.get [false, false] = .ptr (S + 1) 0 2 ∧ s.get [false, true] = G N ∧ s.get [true, true] = .slice b6 0 (i0 + 1) (i0 + 1) ∧ s.get [false, false, false] = G ((i0 + 1 : Nat) : Int) ∧ s.get [true, false, false] = .slice b8 0 (i0 + 2) (i0 + 2) ∧ s.get [false, true, false] = G k ∧ s.get [true, true, false] = G (-1) ∧ h = H) := Tr.region fun s h hp => by
        obtain ⟨g0, g1, g2, g3, g4, g5, g6, rfl⟩ := hp
        simp (disch := first | omega | exact getEq rfl | exact getO0 | exact Nat.le_of_ble_eq_true rfl) [c49_o9, c49_o10, c49_o11, c49_o12, c49_o13, came_some, goI, List.getElem?_cons_zero, List.getElem?_cons_succ, kn, keep, app_growP, app_noneP, plus_N, plus_at0, put_plus0, upd_N, upd_size, putAt, AV.cells, fillA, loadA, takeA, mk, Eff.isAll, Eff.isNone, Eff.commutes, Eff.spares, okPair, apart, eqAgg, fits, LK.fits, allEq, aveq, eqk, mmA, beqT, wrapI, idxI, tdivI, tmodI, decT, decF, ibT, ibF, inT, inF, evScope_c, if_pos, if_neg, g0, g1, g2, g3, g4, g5, g6, fp]
      exact t
  · by_cases a0 : (i0 : Int) = n - 1
    · have ea : mA n c m d i0 = c := by unfold mA; rw [if_neg a1, if_pos a0]
      have er : mR n r m d i0 = r := by unfold mR; rw [if_neg a1, if_pos a0]
      rw [ea, er]
      by_cases a2 : (k : Int) ≤ c
      · have e : decZ c r k = 1 := by unfold decZ; rw [if_pos a2]
        rw [e]
        have t : Tr tbl J ((.seq c49_o9 (.seq c49_o10 (.cond (.s [false, false, false, true, false, false]) c49_o11 (.seq c49_o12 (.cond (.s [true, true, true, false, true, false]) c49_o13 .skip)))))) (fun s h => s.get [true] = .ptr S 0 5 ∧ s.get [false, false] = .ptr (S + 1) 0 2 ∧ s.get [false, true] = G N ∧ s.get [true, true] = .slice b6 0 (i0 + 1) (i0 + 1) ∧ s.get [false, false, false] = G ((i0 + 1 : Nat) : Int) ∧ s.get [true, false, false] = .slice b8 0 (i0 + 2) (i0 + 2) ∧ s.get [false, true, false] = G k ∧ h = H) .normal (fun s h => s.get [true] = .ptr S 0 5 ∧ s.get [false, false] = .ptr (S + 1) 0 2 ∧ s.get [false, true] = G N ∧ s.get [true, true] = .slice b6 0 (i0 + 1) (i0 + 1) ∧ s.get [false, false, false] = G ((i0 + 1 : Nat) : Int) ∧ s.get [true, false, false] = .slice b8 0 (i0 + 2) (i0 + 2) ∧ s.get [false, true, false] = G k ∧ s.get [true, true, false] = G 1 ∧ h = H) := Tr.region fun s h hp => by
          obtain ⟨g0, g1, g2, g3, g4, g5, g6, rfl⟩ := hp
          simp (disch := first | omega | exact getEq rfl | exact getO0 | exact Nat.le_of_ble_eq_true rfl) [c49_o9, c49_o10, c49_o11, c49_o12, c49_o13, came_some, goI, List.getElem?_cons_zero, List.getElem?_cons_succ, kn, keep, app_growP, app_noneP, plus_N, plus_at0, put_plus0, upd_N, upd_size, putAt, AV.cells, fillA, loadA, takeA, mk, Eff.isAll, Eff.isNone, Eff.commutes, Eff.spares, okPair, apart, eqAgg, fits, LK.fits, allEq, aveq, eqk, mmA, beqT, wrapI, idxI, tdivI, tmodI, decT, decF, ibT, ibF, inT, inF, evScope_c, if_pos, if_neg, g0, g1, g2, g3, g4, g5, g6, fp]
        exact t
      · by_cases a3 : r ≤ k
        · have e : decZ c r k = -1 := by unfold decZ; rw [if_neg a2, if_pos a3]
          rw [e]
          have t : Tr tbl J ((.seq c49_o9 (.seq c49_o10 (.cond (.s [false, false, false, true, false, false]) c49_o11 (.seq c49_o12 (.cond (.s [true, true, true, false, true, false]) c49_o13 .skip)))))) (fun s h => s.get [true] = .ptr S 0 5 ∧ s.get [false, false] = .ptr (S + 1) 0 2 ∧ s.get [false, true] = G N ∧ s.get [true, true] = .slice b6 0 (i0 + 1) (i0 + 1) ∧ s.get [false, false, false] = G ((i0 + 1 : Nat) : Int) ∧ s.get [true, false, false] = .slice b8 0 (i0 + 2) (i0 + 2) ∧ s.get [false, true, false] = G k ∧ h = H) .normal (fun s h => s.get [true] = .ptr S 0 5 ∧ s.get [false, false] = .ptr (S + 1) 0 2 ∧ s.get [false, true] = G N ∧ s.get [true, true] = .slice b6 0 (i0 + 1) (i0 + 1) ∧ s.get [false, false, false] = G ((i0 + 1 : Nat) : Int) ∧ s.get [true, false, false] = .slice b8 0 (i0 + 2) (i0 + 2) ∧ s.get [false, true, false] = G k ∧ s.get [true, true, false] = G (-1) ∧ h = H) := Tr.region fun s h hp => by
            obtain ⟨g0, g1, g2, g3, g4, g5, g6, rfl⟩ := hp
            simp (disch := first | omega | exact getEq rfl | exact getO0 | exact Nat.le_of_ble_eq_true rfl) [c49_o9, c49_o10, c49_o11, c49_o12, c49_o13, came_some, goI, List.getElem?_cons_zero, List.getElem?_cons_succ, kn, keep, app_growP, app_noneP, plus_N, plus_at0, put_plus0, upd_N, upd_size, putAt, AV.cells, fillA, loadA, takeA, mk, Eff.isAll, Eff.isNone, Eff.commutes, Eff.spares, okPair, apart, eqAgg, fits, LK.fits, allEq, aveq, eqk, mmA, beqT, wrapI, idxI, tdivI, tmodI, decT, decF, ibT, ibF, inT, inF, evScope_c, if_pos, if_neg, g0, g1, g2, g3, g4, g5, g6, fp]
          exact t
        · have e : decZ c r k = 0 := by unfold decZ; rw [if_neg a2, if_neg a3]
          rw [e]
          have t : Tr tbl J ((.seq c49_o9 (.seq c49_o10 (.cond (.s [false, false, false, true, false, false]) c49_o11 (.seq c49_o12 (.cond (.s [true, true, true, false, true, false]) c49_o13 .skip)))))) (fun s h => s.get [true] = .ptr S 0 5 ∧ s.get [false, false] = .ptr (S + 1) 0 2 ∧ s.get [false, true] = G N ∧ s.get [true, true] = .slice b6 0 (i0 + 1) (i0 + 1) ∧ s.get [false, false, false] = G ((i0 + 1 : Nat) : Int) ∧ s.get [true, false, false] = .slice b8 0 (i0 + 2) (i0 + 2) ∧ s.get [false, true, false] = G k ∧ h = H) .normal (fun s h => s.get [true] = .ptr S 0 5 ∧ s.get [false, false] = .ptr (S + 1) 0 2 ∧ s.get [false, true] = G N ∧ s.get [true, true] = .slice b6 0 (i0 + 1) (i0 + 1) ∧ s.get [false, false, false] = G ((i0 + 1 : Nat) : Int) ∧ s.get [true, false, false] = .slice b8 0 (i0 + 2) (i0 + 2) ∧ s.get [false, true, false] = G k ∧ s.get [true, true, false] = G 0 ∧ h = H) := Tr.region fun s h hp => by
            obtain ⟨g0, g1, g2, g3, g4, g5, g6, rfl⟩ := hp
            simp (disch := first | omega | exact getEq rfl | exact getO0 | exact Nat.le_of_ble_eq_true rfl) [c49_o9, c49_o10, c49_o11, c49_o12, c49_o13, came_some, goI, List.getElem?_cons_zero, List.getElem?_cons_succ, kn, keep, app_growP, app_noneP, plus_N, plus_at0, put_plus0, upd_N, upd_size, putAt, AV.cells, fillA, loadA, takeA, mk, Eff.isAll, Eff.isNone, Eff.commutes, Eff.spares, okPair, apart, eqAgg, fits, LK.fits, allEq, aveq, eqk, mmA, beqT, wrapI, idxI, tdivI, tmodI, decT, decF, ibT, ibF, inT, inF, evScope_c, if_pos, if_neg, g0, g1, g2, g3, g4, g5, g6, fp]
          exact t
    · have ea : mA n c m d i0 = -1 := by unfold mA; rw [if_neg a1, if_neg a0]
      have er : mR n r m d i0 = n + m + 1 := by unfold mR; rw [if_neg a1, if_neg a0]
      rw [ea, er]
      have e : decZ (-1) (n + m + 1) k = 0 := by unfold decZ; rw [if_neg (by omega), if_neg (by omega)]
      rw [e]
      have t : Tr tbl J ((.seq c49_o9 (.seq c49_o10 (.cond (.s [false, false, false, true, false, false]) c49_o11 (.seq c49_o12 (.cond (.s [true, true, true, false, true, false]) c49_o13 .skip)))))) (fun s h => s.get [true] = .ptr S 0 5 ∧ s.get [false, false] = .ptr (S + 1) 0 2 ∧ s.get [false, true] = G N ∧ s.get [true, true] = .slice b6 0 (i0 + 1) (i0 + 1) ∧ s.get [false, false, false] = G ((i0 + 1 : Nat) : Int) ∧ s.get [true, false, false] = .slice b8 0 (i0 + 2) (i0 + 2) ∧ s.get [false, true, false] = G k ∧ h = H) .normal (fun s h => s.get [true] = .ptr S 0 5 ∧ s.get [false, false] = .ptr (S + 1) 0 2 ∧ s.get [false, true] = G N ∧ s.get [true, true] = .slice b6 0 (i0 + 1) (i0 + 1) ∧ s.get [false, false, false] = G ((i0 + 1 : Nat) : Int) ∧ s.get [true, false, false] = .slice b8 0 (i0 + 2) (i0 + 2) ∧ s.get [false, true, false] = G k ∧ s.get [true, true, false] = G 0 ∧ h = H) := Tr.region fun s h hp => by
        obtain ⟨g0, g1, g2, g3, g4, g5, g6, rfl⟩ := hp
        simp (disch := first | omega | exact getEq rfl | exact getO0 | exact Nat.le_of_ble_eq_true rfl) [c49_o9, c49_o10, c49_o11, c49_o12, c49_o13, came_some, goI, List.getElem?_cons_zero, List.getElem?_cons_succ, kn, keep, app_growP, app_noneP, plus_N, plus_at0, put_plus0, upd_N, upd_size, putAt, AV.cells, fillA, loadA, takeA, mk, Eff.isAll, Eff.isNone, Eff.commutes, Eff.spares, okPair, apart, eqAgg, fits, LK.fits, allEq, aveq, eqk, mmA, beqT, wrapI, idxI, tdivI, tmodI, decT, decF, ibT, ibF, inT, inF, evScope_c, if_pos, if_neg, g0, g1, g2, g3, g4, g5, g6, fp]
      exact t

theorem ms_b2 (J : CallF) (k65 : ∀ (h : Heap) (bA bR nA vA nR vR j : Nat) (k a r : Int) (c1 c2 : List AV) (h2 : j < 1000) (h3 : j < nA) (h4 : j < nR) (g1 : h.get bA = .cells 1 vA c1) (g2 : h.get bR = .cells 1 vR c2) (x1 : c1[j]? = some (G a)) (x2 : c2[j]? = some (G r)), J 65 [.agg [.slice bA 0 nA vA, .slice bR 0 nR vR], G ((j + 1 : Nat) : Int), G k] h = some (G (decZ a r k), [], false))
    (H : Heap) (mf : MF S H bA bR N n c r m d) (o8 : OB H b8 (i0 + 2) cs8) (hb : S + 2 ≤ b8) (hN : N ≤ 36) (hi : i0 < N) (hk : k ≤ i0 + 1) {w : Int} (hw : decZ (mA n c m d i0) (mR n r m d i0) k = w) : Tr tbl J (.seq (.seq c49_o14 (.cond (.s [true, false, true, true, true, false]) (.seq c49_o15 .ret) .skip)) c49_o16) (fun s h => s.get [true] = .ptr S 0 5 ∧ s.get [false, false] = .ptr (S + 1) 0 2 ∧ s.get [false, true] = G N ∧ s.get [true, true] = .slice b6 0 (i0 + 1) (i0 + 1) ∧ s.get [false, false, false] = G ((i0 + 1 : Nat) : Int) ∧ s.get [true, false, false] = .slice b8 0 (i0 + 2) (i0 + 2) ∧ s.get [false, true, false] = G k ∧ s.get [true, true, false] = G w ∧ h = H) .normal (fun s h => s.get [true] = .ptr S 0 5 ∧ s.get [false, false] = .ptr (S + 1) 0 2 ∧ s.get [false, true] = G N ∧ s.get [true, true] = .slice b6 0 (i0 + 1) (i0 + 1) ∧ s.get [false, false, false] = G ((i0 + 1 : Nat) : Int) ∧ s.get [true, false, false] = .slice b8 0 (i0 + 2) (i0 + 2) ∧ s.get [false, true, false] = G k ∧ h = H.upd b8 (.cells 1 (i0 + 2) (cs8.set k (.bool (w == 0))))) := by
  have kk := k65 H bA bR N N N N i0 k _ _ _ _ (by omega) hi hi mf.fa mf.fr (by rw [zs_get, if_pos hi]) (by rw [zs_get, if_pos hi])
  rw [hw] at kk
  simp only [Int.natCast_add, Int.natCast_one] at kk
  have fc := mf.fc
  have hl := o8.l
  have x2 : ∀ z : Bool, Eff.app (.put b8 (i0 + 2) k [.bool z]) H = some (H.upd b8 (.cells 1 (i0 + 2) (cs8.set k (.bool z)))) := fun z => by
    have := put_gen H b8 (i0 + 2) k 1 cs8 [.bool z] (by rw [mf.n0]; omega) o8.g (by simp; omega)
    exact this
  clear o8 mf hw
  have t : Tr tbl J ((.seq (.seq c49_o14 (.cond (.s [true, false, true, true, true, false]) (.seq c49_o15 .ret) .skip)) c49_o16)) (fun s h => s.get [true] = .ptr S 0 5 ∧ s.get [false, false] = .ptr (S + 1) 0 2 ∧ s.get [false, true] = G N ∧ s.get [true, true] = .slice b6 0 (i0 + 1) (i0 + 1) ∧ s.get [false, false, false] = G ((i0 + 1 : Nat) : Int) ∧ s.get [true, false, false] = .slice b8 0 (i0 + 2) (i0 + 2) ∧ s.get [false, true, false] = G k ∧ s.get [true, true, false] = G w ∧ h = H) .normal (fun s h => s.get [true] = .ptr S 0 5 ∧ s.get [false, false] = .ptr (S + 1) 0 2 ∧ s.get [false, true] = G N ∧ s.get [true, true] = .slice b6 0 (i0 + 1) (i0 + 1) ∧ s.get [false, false, false] = G ((i0 + 1 : Nat) : Int) ∧ s.get [true, false, false] = .slice b8 0 (i0 + 2) (i0 + 2) ∧ s.get [false, true, false] = G k ∧ h = H.upd b8 (.cells 1 (i0 + 2) (cs8.set k (.bool (w == 0))))) := Tr.region fun s h hp => by
    obtain ⟨g0, g1, g2, g3, g4, g5, g6, g7, rfl⟩ := hp
    simp (disch := first | omega | exact getEq rfl | exact getO0 | exact Nat.le_of_ble_eq_true rfl) [c49_o14, c49_o16, came_some, goI, List.getElem?_cons_zero, List.getElem?_cons_succ, kn, keep, app_growP, app_noneP, plus_N, plus_at0, put_plus0, upd_N, upd_size, putAt, AV.cells, fillA, loadA, takeA, mk, Eff.isAll, Eff.isNone, Eff.commutes, Eff.spares, okPair, apart, eqAgg, fits, LK.fits, allEq, aveq, eqk, mmA, beqT, wrapI, idxI, tdivI, tmodI, decT, decF, ibT, ibF, inT, inF, evScope_c, if_pos, if_neg, g0, g1, g2, g3, g4, g5, g6, g7, fc, kk, x2, hl]
  exact t

/-! ### The loops -/
abbrev L49i : List Path := [[true], [false, false], [false, true], [true, true], [false, false, false], [true, false, false], [false, true, false]]
abbrev L49o : List Path := [[true], [false, false], [false, true], [true, true], [false, false, false]]
abbrev Q49 (S bA bR N b6 b8 i0 : Nat) (n c r m d : Int) (cs6 : List AV) (k : Nat) : SP := fun s h => ∃ cs8, F49 S N b6 b8 i0 k h s h ∧ MF S h bA bR N n c r m d ∧ OB h b6 (i0 + 1) cs6 ∧ OB h b8 (i0 + 2) cs8
def K65 (J : CallF) : Prop := ∀ (h : Heap) (bA bR nA vA nR vR j : Nat) (k a r : Int) (c1 c2 : List AV) (h2 : j < 1000) (h3 : j < nA) (h4 : j < nR) (g1 : h.get bA = .cells 1 vA c1) (g2 : h.get bR = .cells 1 vR c2) (x1 : c1[j]? = some (G a)) (x2 : c2[j]? = some (G r)), J 65 [.agg [.slice bA 0 nA vA, .slice bR 0 nR vR], G ((j + 1 : Nat) : Int), G k] h = some (G (decZ a r k), [], false)

theorem ms_in (J : CallF) (k65 : K65 J) (hm : HMs n c r m d N) (hi : i0 < N) (hb6 : S + 2 ≤ b6) (hb8 : S + 2 ≤ b8) (hne : b8 ≠ b6) : Tr tbl J c49_l0 (Q49 S bA bR N b6 b8 i0 n c r m d cs6 0) (.exit 2) (Q49 S bA bR N b6 b8 i0 n c r m d cs6 (i0 + 2)) := by
  have hN := hm.h2
  refine Tr.rounds (P := Q49 S bA bR N b6 b8 i0 n c r m d cs6) (M := i0 + 2) (fun k hk => fun s h hp => ?_) (fun s h hp => ?_) (by simp) 0 (by omega)
  · obtain ⟨cs8, hf, mf, o6, o8⟩ := hp
    have hpre : F49 S N b6 b8 i0 k h s h := hf
    obtain ⟨H, hH⟩ : ∃ H, H = h := ⟨_, rfl⟩
    have t0 : Tr tbl J ((.trim L49i (.seq c49_o7 (.cond (.s [false, false, true, true]) .skip (.exit 2))))) (fun s h => s.get [true] = .ptr S 0 5 ∧ s.get [false, false] = .ptr (S + 1) 0 2 ∧ s.get [false, true] = G N ∧ s.get [true, true] = .slice b6 0 (i0 + 1) (i0 + 1) ∧ s.get [false, false, false] = G ((i0 + 1 : Nat) : Int) ∧ s.get [true, false, false] = .slice b8 0 (i0 + 2) (i0 + 2) ∧ s.get [false, true, false] = G k ∧ h = H) .normal (fun s h => s.get [true] = .ptr S 0 5 ∧ s.get [false, false] = .ptr (S + 1) 0 2 ∧ s.get [false, true] = G N ∧ s.get [true, true] = .slice b6 0 (i0 + 1) (i0 + 1) ∧ s.get [false, false, false] = G ((i0 + 1 : Nat) : Int) ∧ s.get [true, false, false] = .slice b8 0 (i0 + 2) (i0 + 2) ∧ s.get [false, true, false] = G k ∧ h = H) := Tr.region fun s h hp => by
      obtain ⟨g0, g1, g2, g3, g4, g5, g6, rfl⟩ := hp
      simp (disch := first | omega | exact getEq rfl | exact getO0 | exact Nat.le_of_ble_eq_true rfl) [c49_o7, came_some, goI, List.getElem?_cons_zero, List.getElem?_cons_succ, kn, keep, app_growP, app_noneP, plus_N, plus_at0, put_plus0, upd_N, upd_size, putAt, AV.cells, fillA, loadA, takeA, mk, Eff.isAll, Eff.isNone, Eff.commutes, Eff.spares, okPair, apart, eqAgg, fits, LK.fits, allEq, aveq, eqk, mmA, beqT, wrapI, idxI, tdivI, tmodI, decT, decF, ibT, ibF, inT, inF, evScope_c, if_pos, if_neg, g0, g1, g2, g3, g4, g5, g6]
    rw [hH] at t0
    have tb1 := ms_b1 (b6 := b6) (b8 := b8) J h hm mf hi (k := k) (by omega)
    have tb2 := ms_b2 (b6 := b6) J k65 h mf o8 hb8 hN hi (k := k) (by omega) rfl
    have t17 := fun (X : Heap) => (show Tr tbl J c49_o17 (F49 S N b6 b8 i0 k X) .normal (F49 S N b6 b8 i0 (k + 1) X) from by
      have t : Tr tbl J (c49_o17) (fun s h => s.get [true] = .ptr S 0 5 ∧ s.get [false, false] = .ptr (S + 1) 0 2 ∧ s.get [false, true] = G N ∧ s.get [true, true] = .slice b6 0 (i0 + 1) (i0 + 1) ∧ s.get [false, false, false] = G ((i0 + 1 : Nat) : Int) ∧ s.get [true, false, false] = .slice b8 0 (i0 + 2) (i0 + 2) ∧ s.get [false, true, false] = G k ∧ h = X) .normal (fun s h => s.get [true] = .ptr S 0 5 ∧ s.get [false, false] = .ptr (S + 1) 0 2 ∧ s.get [false, true] = G N ∧ s.get [true, true] = .slice b6 0 (i0 + 1) (i0 + 1) ∧ s.get [false, false, false] = G ((i0 + 1 : Nat) : Int) ∧ s.get [true, false, false] = .slice b8 0 (i0 + 2) (i0 + 2) ∧ s.get [false, true, false] = G ((k + 1 : Nat) : Int) ∧ h = X) := Tr.region fun s h hp => by
        obtain ⟨g0, g1, g2, g3, g4, g5, g6, rfl⟩ := hp
        simp (disch := first | omega | exact getEq rfl | exact getO0 | exact Nat.le_of_ble_eq_true rfl) [c49_o17, came_some, goI, List.getElem?_cons_zero, List.getElem?_cons_succ, kn, keep, app_growP, app_noneP, plus_N, plus_at0, put_plus0, upd_N, upd_size, putAt, AV.cells, fillA, loadA, takeA, mk, Eff.isAll, Eff.isNone, Eff.commutes, Eff.spares, okPair, apart, eqAgg, fits, LK.fits, allEq, aveq, eqk, mmA, beqT, wrapI, idxI, tdivI, tmodI, decT, decF, ibT, ibF, inT, inF, evScope_c, if_pos, if_neg, g0, g1, g2, g3, g4, g5, g6]
      exact t)
    have hn0 := mf.n0
    rcases ms_a (b8 := b8) (S := S) J h o6 hN hi (k := k) (by omega) with ha | ha
    · obtain ⟨s', h', r1, q1⟩ := (Tr.trim_seq t0 (Tr.seq (Tr.block (Tr.seq_out ha (by simp))) (t17 h))) s h hpre
      obtain ⟨p0, p1, p2, p3, p4, p5, p6, rfl⟩ := q1
      exact ⟨s', h', r1, cs8, ⟨p0, p1, p2, p3, p4, p5, p6, rfl⟩, mf, o6, o8⟩
    · obtain ⟨s', h', r1, q1⟩ := (Tr.trim_seq t0 (Tr.seq (Tr.block_out (Tr.seq ha (Tr.app2 tb1 tb2)) (by simp)) (t17 _))) s h hpre
      obtain ⟨p0, p1, p2, p3, p4, p5, p6, rfl⟩ := q1
      exact ⟨s', _, r1, _, ⟨p0, p1, p2, p3, p4, p5, p6, rfl⟩, mf.upd hb8 _, o6.ne (by omega) hne _, o8.set (by omega) (by omega) _⟩
  · obtain ⟨cs8, hf, mf, o6, o8⟩ := hp
    obtain ⟨H, hH⟩ : ∃ H, H = h := ⟨_, rfl⟩
    have t : Tr tbl J ((.trim L49i c49_b0)) (fun s h => s.get [true] = .ptr S 0 5 ∧ s.get [false, false] = .ptr (S + 1) 0 2 ∧ s.get [false, true] = G N ∧ s.get [true, true] = .slice b6 0 (i0 + 1) (i0 + 1) ∧ s.get [false, false, false] = G ((i0 + 1 : Nat) : Int) ∧ s.get [true, false, false] = .slice b8 0 (i0 + 2) (i0 + 2) ∧ s.get [false, true, false] = G ((i0 + 2 : Nat) : Int) ∧ h = H) (.exit 2) (fun s h => s.get [true] = .ptr S 0 5 ∧ s.get [false, false] = .ptr (S + 1) 0 2 ∧ s.get [false, true] = G N ∧ s.get [true, true] = .slice b6 0 (i0 + 1) (i0 + 1) ∧ s.get [false, false, false] = G ((i0 + 1 : Nat) : Int) ∧ s.get [true, false, false] = .slice b8 0 (i0 + 2) (i0 + 2) ∧ s.get [false, true, false] = G ((i0 + 2 : Nat) : Int) ∧ h = H) := Tr.region fun s h hp => by
      obtain ⟨g0, g1, g2, g3, g4, g5, g6, rfl⟩ := hp
      simp (disch := first | omega | exact getEq rfl | exact getO0 | exact Nat.le_of_ble_eq_true rfl) [c49_b0, c49_o7, came_some, goI, List.getElem?_cons_zero, List.getElem?_cons_succ, kn, keep, app_growP, app_noneP, plus_N, plus_at0, put_plus0, upd_N, upd_size, putAt, AV.cells, fillA, loadA, takeA, mk, Eff.isAll, Eff.isNone, Eff.commutes, Eff.spares, okPair, apart, eqAgg, fits, LK.fits, allEq, aveq, eqk, mmA, beqT, wrapI, idxI, tdivI, tmodI, decT, decF, ibT, ibF, inT, inF, evScope_c, if_pos, if_neg, g0, g1, g2, g3, g4, g5, g6]
    rw [hH] at t
    obtain ⟨s', h', r1, q1⟩ := t s h hf
    obtain ⟨p0, p1, p2, p3, p4, p5, p6, rfl⟩ := q1
    exact ⟨s', h', r1, cs8, ⟨p0, p1, p2, p3, p4, p5, p6, rfl⟩, mf, o6, o8⟩

abbrev P49 (S bA bR N : Nat) (n c r m d : Int) (i0 : Nat) : SP := fun s h => ∃ b6 cs6, ((fun s h => s.get [true] = .ptr S 0 5 ∧ s.get [false, false] = .ptr (S + 1) 0 2 ∧ s.get [false, true] = G N ∧ s.get [true, true] = .slice b6 0 (i0 + 1) (i0 + 1) ∧ s.get [false, false, false] = G ((i0 + 1 : Nat) : Int)) : SP) s h ∧ MF S h bA bR N n c r m d ∧ OB h b6 (i0 + 1) cs6 ∧ S + 2 ≤ b6

theorem ms_18 (J : CallF) : Tr tbl J c49_o18 (Q49 S bA bR N b6 b8 i0 n c r m d cs6 (i0 + 2)) .normal (fun s h => ∃ cs8, ((fun s h => s.get [true] = .ptr S 0 5 ∧ s.get [false, false] = .ptr (S + 1) 0 2 ∧ s.get [false, true] = G N ∧ s.get [true, true] = .slice b8 0 (i0 + 2) (i0 + 2) ∧ s.get [false, false, false] = G ((i0 + 1 : Nat) : Int)) : SP) s h ∧ MF S h bA bR N n c r m d ∧ OB h b8 (i0 + 2) cs8) := fun s h hp => by
  obtain ⟨cs8, ⟨p0, p1, p2, p3, p4, p5, p6, _⟩, mf', o6', o8'⟩ := hp
  obtain ⟨Y, hY⟩ : ∃ Y, Y = h := ⟨_, rfl⟩
  have t : Tr tbl J (c49_o18) (fun s h => s.get [true] = .ptr S 0 5 ∧ s.get [false, false] = .ptr (S + 1) 0 2 ∧ s.get [false, true] = G N ∧ s.get [false, false, false] = G ((i0 + 1 : Nat) : Int) ∧ s.get [true, false, false] = .slice b8 0 (i0 + 2) (i0 + 2) ∧ h = Y) .normal (fun s h => s.get [true] = .ptr S 0 5 ∧ s.get [false, false] = .ptr (S + 1) 0 2 ∧ s.get [false, true] = G N ∧ s.get [true, true] = .slice b8 0 (i0 + 2) (i0 + 2) ∧ s.get [false, false, false] = G ((i0 + 1 : Nat) : Int) ∧ h = Y) := Tr.region fun s h hp => by
    obtain ⟨g0, g1, g2, g3, g4, rfl⟩ := hp
    simp (disch := first | omega | exact getEq rfl | exact getO0 | exact Nat.le_of_ble_eq_true rfl) [c49_o18, came_some, goI, List.getElem?_cons_zero, List.getElem?_cons_succ, kn, keep, app_growP, app_noneP, plus_N, plus_at0, put_plus0, upd_N, upd_size, putAt, AV.cells, fillA, loadA, takeA, mk, Eff.isAll, Eff.isNone, Eff.commutes, Eff.spares, okPair, apart, eqAgg, fits, LK.fits, allEq, aveq, eqk, mmA, beqT, wrapI, idxI, tdivI, tmodI, decT, decF, ibT, ibF, inT, inF, evScope_c, if_pos, if_neg, g0, g1, g2, g3, g4]
  obtain ⟨s', h', r1, q0, q1, q2, q3, q4, q5⟩ := t s h ⟨p0, p1, p2, p4, p5, hY.symm⟩
  rw [hY] at q5
  rw [q5] at r1
  exact ⟨s', h, r1, cs8, ⟨q0, q1, q2, q3, q4⟩, mf', o8'⟩

theorem ms_19 (J : CallF) (hb8' : S + 2 ≤ b8) (hi : i0 ≤ 40) : Tr tbl J c49_o19 (fun s h => ∃ cs8, ((fun s h => s.get [true] = .ptr S 0 5 ∧ s.get [false, false] = .ptr (S + 1) 0 2 ∧ s.get [false, true] = G N ∧ s.get [true, true] = .slice b8 0 (i0 + 2) (i0 + 2) ∧ s.get [false, false, false] = G ((i0 + 1 : Nat) : Int)) : SP) s h ∧ MF S h bA bR N n c r m d ∧ OB h b8 (i0 + 2) cs8) .normal (P49 S bA bR N n c r m d (i0 + 1)) := fun s h hp => by
  obtain ⟨cs8, ⟨p0, p1, p2, p3, p4⟩, mf', o8'⟩ := hp
  obtain ⟨Y, hY⟩ : ∃ Y, Y = h := ⟨_, rfl⟩
  have t : Tr tbl J (c49_o19) (fun s h => s.get [true] = .ptr S 0 5 ∧ s.get [false, false] = .ptr (S + 1) 0 2 ∧ s.get [false, true] = G N ∧ s.get [true, true] = .slice b8 0 (i0 + 2) (i0 + 2) ∧ s.get [false, false, false] = G ((i0 + 1 : Nat) : Int) ∧ h = Y) .normal (fun s h => s.get [true] = .ptr S 0 5 ∧ s.get [false, false] = .ptr (S + 1) 0 2 ∧ s.get [false, true] = G N ∧ s.get [true, true] = .slice b8 0 (i0 + 2) (i0 + 2) ∧ s.get [false, false, false] = G ((i0 + 1 + 1 : Nat) : Int) ∧ h = Y) := Tr.region fun s h hp => by
    obtain ⟨g0, g1, g2, g3, g4, rfl⟩ := hp
    simp (disch := first | omega | exact getEq rfl | exact getO0 | exact Nat.le_of_ble_eq_true rfl) [c49_o19, came_some, goI, List.getElem?_cons_zero, List.getElem?_cons_succ, kn, keep, app_growP, app_noneP, plus_N, plus_at0, put_plus0, upd_N, upd_size, putAt, AV.cells, fillA, loadA, takeA, mk, Eff.isAll, Eff.isNone, Eff.commutes, Eff.spares, okPair, apart, eqAgg, fits, LK.fits, allEq, aveq, eqk, mmA, beqT, wrapI, idxI, tdivI, tmodI, decT, decF, ibT, ibF, inT, inF, evScope_c, if_pos, if_neg, g0, g1, g2, g3, g4]
  obtain ⟨s', h', r1, q0, q1, q2, q3, q4, q5⟩ := t s h ⟨p0, p1, p2, p3, p4, hY.symm⟩
  rw [hY] at q5
  rw [q5] at r1
  exact ⟨s', h, r1, b8, cs8, ⟨q0, q1, q2, q3, q4⟩, mf', o8', hb8'⟩

theorem act_move (call : CallF) (h0 : Heap) (s : T) (h : Heap) (x : AOpd) : act call h0 s h (.move x) = pure1 (some (x.ev s)) := rfl
theorem act_bin (call : CallF) (h0 : Heap) (s : T) (h : Heap) (op : BinOp) (x y : AOpd) : act call h0 s h (.bin op x y) = pure1 (evBin op (x.ev s) (y.ev s)) := rfl
/-- A new slice of n bools. -/
def mkS (h : Heap) (n : Int) : Option (AV × FP) := if 0 ≤ n ∧ n * (1 : Nat) ≤ 1099511627776 ∧ [AV.bool false].length = 1 then some (.slice h.size 0 n.toNat (n.toNat * 1), { eff := .grow [.cells 1 (n.toNat * 1) (repl n.toNat [.bool false])] }) else none
theorem act_mkS (call : CallF) (h0 : Heap) (s : T) (h : Heap) (x : AOpd) : act call h0 s h (.makeSlice none 1 1 [.bool false] x) = match x.ev s with
    | .int _ n => mkS h n
    | _ => none := by
  simp only [act]
  cases x.ev s <;> rfl
theorem mkS_ok (h : Heap) (i0 : Nat) (hi : i0 ≤ 1000) : mkS h ((i0 : Int) + 1 + 1) = some (.slice h.size 0 (i0 + 2) (i0 + 2), { eff := .grow [.cells 1 (i0 + 2) (List.replicate (i0 + 2) (.bool false))] }) := by
  have en : ((i0 : Int) + 1 + 1).toNat = i0 + 2 := by omega
  unfold mkS
  rw [if_pos ⟨by omega, by rw [Int.natCast_one, Int.mul_one]; omega, rfl⟩, en, Nat.mul_one]
  rfl

theorem ms_0 (J : CallF) (hi : i0 < N) (hN : N ≤ 36) (H : Heap) : Tr tbl J (.trim L49o (.seq c49_o4 (.cond (.s [false, false, true, false]) .skip (.exit 0)))) (fun s h => s.get [true] = .ptr S 0 5 ∧ s.get [false, false] = .ptr (S + 1) 0 2 ∧ s.get [false, true] = G N ∧ s.get [true, true] = .slice b6 0 (i0 + 1) (i0 + 1) ∧ s.get [false, false, false] = G ((i0 + 1 : Nat) : Int) ∧ h = H) .normal (fun s h => s.get [true] = .ptr S 0 5 ∧ s.get [false, false] = .ptr (S + 1) 0 2 ∧ s.get [false, true] = G N ∧ s.get [true, true] = .slice b6 0 (i0 + 1) (i0 + 1) ∧ s.get [false, false, false] = G ((i0 + 1 : Nat) : Int) ∧ h = H) := by
  have t0 : Tr tbl J ((.trim L49o (.seq c49_o4 (.cond (.s [false, false, true, false]) .skip (.exit 0))))) (fun s h => s.get [true] = .ptr S 0 5 ∧ s.get [false, false] = .ptr (S + 1) 0 2 ∧ s.get [false, true] = G N ∧ s.get [true, true] = .slice b6 0 (i0 + 1) (i0 + 1) ∧ s.get [false, false, false] = G ((i0 + 1 : Nat) : Int) ∧ h = H) .normal (fun s h => s.get [true] = .ptr S 0 5 ∧ s.get [false, false] = .ptr (S + 1) 0 2 ∧ s.get [false, true] = G N ∧ s.get [true, true] = .slice b6 0 (i0 + 1) (i0 + 1) ∧ s.get [false, false, false] = G ((i0 + 1 : Nat) : Int) ∧ h = H) := Tr.region fun s h hp => by
    obtain ⟨g0, g1, g2, g3, g4, rfl⟩ := hp
    simp (disch := first | omega | exact getEq rfl | exact getO0 | exact Nat.le_of_ble_eq_true rfl) [c49_o4, came_some, goI, List.getElem?_cons_zero, List.getElem?_cons_succ, kn, keep, app_growP, app_noneP, plus_N, plus_at0, put_plus0, upd_N, upd_size, putAt, AV.cells, fillA, loadA, takeA, mk, Eff.isAll, Eff.isNone, Eff.commutes, Eff.spares, okPair, apart, eqAgg, fits, LK.fits, allEq, aveq, eqk, mmA, beqT, wrapI, idxI, tdivI, tmodI, decT, decF, ibT, ibF, inT, inF, evScope_c, if_pos, if_neg, g0, g1, g2, g3, g4]
  exact t0
theorem ms_5 (J : CallF) (hi : i0 < N) (hN : N ≤ 36) (H X : Heap) {cs0 : List AV} (hb8 : H.size = b8) (hcs0 : List.replicate (i0 + 2) (AV.bool false) = cs0) (hX : H.plus [.cells 1 (i0 + 2) cs0] = X) : Tr tbl J c49_o5 (fun s h => s.get [true] = .ptr S 0 5 ∧ s.get [false, false] = .ptr (S + 1) 0 2 ∧ s.get [false, true] = G N ∧ s.get [true, true] = .slice b6 0 (i0 + 1) (i0 + 1) ∧ s.get [false, false, false] = G ((i0 + 1 : Nat) : Int) ∧ h = H) .normal (fun s h => s.get [true] = .ptr S 0 5 ∧ s.get [false, false] = .ptr (S + 1) 0 2 ∧ s.get [false, true] = G N ∧ s.get [true, true] = .slice b6 0 (i0 + 1) (i0 + 1) ∧ s.get [false, false, false] = G ((i0 + 1 : Nat) : Int) ∧ s.get [true, false, false] = .slice b8 0 (i0 + 2) (i0 + 2) ∧ h = X) := by
  have t5 : Tr tbl J (c49_o5) (fun s h => s.get [true] = .ptr S 0 5 ∧ s.get [false, false] = .ptr (S + 1) 0 2 ∧ s.get [false, true] = G N ∧ s.get [true, true] = .slice b6 0 (i0 + 1) (i0 + 1) ∧ s.get [false, false, false] = G ((i0 + 1 : Nat) : Int) ∧ h = H) .normal (fun s h => s.get [true] = .ptr S 0 5 ∧ s.get [false, false] = .ptr (S + 1) 0 2 ∧ s.get [false, true] = G N ∧ s.get [true, true] = .slice b6 0 (i0 + 1) (i0 + 1) ∧ s.get [false, false, false] = G ((i0 + 1 : Nat) : Int) ∧ s.get [true, false, false] = .slice b8 0 (i0 + 2) (i0 + 2) ∧ h = X) := Tr.region fun s h hp => by
    obtain ⟨g0, g1, g2, g3, g4, rfl⟩ := hp
    subst hX hcs0 hb8
    have hms := fun h => mkS_ok h i0 (by omega)
    simp (disch := first | omega | exact getEq rfl | exact getO0 | exact Nat.le_of_ble_eq_true rfl) [-act, c49_o5, came_some, goI, List.getElem?_cons_zero, List.getElem?_cons_succ, kn, keep, app_growP, app_noneP, plus_N, plus_at0, put_plus0, upd_N, upd_size, putAt, AV.cells, fillA, loadA, takeA, mk, Eff.isAll, Eff.isNone, Eff.commutes, Eff.spares, okPair, apart, eqAgg, fits, LK.fits, allEq, aveq, eqk, mmA, beqT, wrapI, idxI, tdivI, tmodI, decT, decF, ibT, ibF, inT, inF, evScope_c, if_pos, if_neg, g0, g1, g2, g3, g4, act_move, act_bin, act_mkS, hms]
  exact t5
theorem ms_6 (J : CallF) (X : Heap) : Tr tbl J c49_o6 (fun s h => s.get [true] = .ptr S 0 5 ∧ s.get [false, false] = .ptr (S + 1) 0 2 ∧ s.get [false, true] = G N ∧ s.get [true, true] = .slice b6 0 (i0 + 1) (i0 + 1) ∧ s.get [false, false, false] = G ((i0 + 1 : Nat) : Int) ∧ s.get [true, false, false] = .slice b8 0 (i0 + 2) (i0 + 2) ∧ h = X) .normal (fun s h => s.get [true] = .ptr S 0 5 ∧ s.get [false, false] = .ptr (S + 1) 0 2 ∧ s.get [false, true] = G N ∧ s.get [true, true] = .slice b6 0 (i0 + 1) (i0 + 1) ∧ s.get [false, false, false] = G ((i0 + 1 : Nat) : Int) ∧ s.get [true, false, false] = .slice b8 0 (i0 + 2) (i0 + 2) ∧ s.get [false, true, false] = G ((0 : Nat) : Int) ∧ h = X) := by
  have t6 : Tr tbl J (c49_o6) (fun s h => s.get [true] = .ptr S 0 5 ∧ s.get [false, false] = .ptr (S + 1) 0 2 ∧ s.get [false, true] = G N ∧ s.get [true, true] = .slice b6 0 (i0 + 1) (i0 + 1) ∧ s.get [false, false, false] = G ((i0 + 1 : Nat) : Int) ∧ s.get [true, false, false] = .slice b8 0 (i0 + 2) (i0 + 2) ∧ h = X) .normal (fun s h => s.get [true] = .ptr S 0 5 ∧ s.get [false, false] = .ptr (S + 1) 0 2 ∧ s.get [false, true] = G N ∧ s.get [true, true] = .slice b6 0 (i0 + 1) (i0 + 1) ∧ s.get [false, false, false] = G ((i0 + 1 : Nat) : Int) ∧ s.get [true, false, false] = .slice b8 0 (i0 + 2) (i0 + 2) ∧ s.get [false, true, false] = G ((0 : Nat) : Int) ∧ h = X) := Tr.region fun s h hp => by
    obtain ⟨g0, g1, g2, g3, g4, g5, rfl⟩ := hp
    simp (disch := first | omega | exact getEq rfl | exact getO0 | exact Nat.le_of_ble_eq_true rfl) [c49_o6, came_some, goI, List.getElem?_cons_zero, List.getElem?_cons_succ, kn, keep, app_growP, app_noneP, plus_N, plus_at0, put_plus0, upd_N, upd_size, putAt, AV.cells, fillA, loadA, takeA, mk, Eff.isAll, Eff.isNone, Eff.commutes, Eff.spares, okPair, apart, eqAgg, fits, LK.fits, allEq, aveq, eqk, mmA, beqT, wrapI, idxI, tdivI, tmodI, decT, decF, ibT, ibF, inT, inF, evScope_c, if_pos, if_neg, g0, g1, g2, g3, g4, g5]
  exact t6

theorem ms_step (J : CallF) (k65 : K65 J) (hm : HMs n c r m d N) (hi : i0 < N) : Tr tbl J (.trim L49o c49_b1) (P49 S bA bR N n c r m d i0) .normal (P49 S bA bR N n c r m d (i0 + 1)) := fun s h hp => by
  obtain ⟨b6, cs6, hf, mf, o6, hb6⟩ := hp
  have hN := hm.h2
  have hlt := get_lt o6.g (by simp)
  obtain ⟨H, hH⟩ : ∃ H, H = h := ⟨_, rfl⟩
  have t0 := ms_0 J (S := S) (b6 := b6) hi hN H
  obtain ⟨b8, hb8⟩ : ∃ b, H.size = b := ⟨_, rfl⟩
  obtain ⟨cs0, hcs0⟩ : ∃ l, List.replicate (i0 + 2) (AV.bool false) = l := ⟨_, rfl⟩
  obtain ⟨X, hX⟩ : ∃ X, H.plus [.cells 1 (i0 + 2) cs0] = X := ⟨_, rfl⟩
  have t5 := ms_5 J (S := S) (b6 := b6) hi hN H X hb8 hcs0 hX
  have t6 := ms_6 J (S := S) (N := N) (b6 := b6) (b8 := b8) (i0 := i0) X
  have mfX : MF S X bA bR N n c r m d := by rw [← hX, hH]; exact mf.plus _
  have o6X : OB X b6 (i0 + 1) cs6 := by rw [← hX, hH]; exact o6.plus _
  have o8X : OB X b8 (i0 + 2) cs0 := by
    refine ⟨by rw [← hX]; exact plus_at0 _ _ _ _ hb8, by rw [← hcs0]; simp, fun j hj => ⟨false, by rw [← hcs0, List.getElem?_replicate, if_pos hj]⟩⟩
  have hne : b8 ≠ b6 := by rw [← hb8, hH]; omega
  have hb8' : S + 2 ≤ b8 := by rw [← hb8, hH]; omega
  have ti := ms_in (bA := bA) (bR := bR) (cs6 := cs6) J k65 hm hi hb6 hb8' hne
  have tq : Tr tbl J c49_o6 (fun s h => s.get [true] = .ptr S 0 5 ∧ s.get [false, false] = .ptr (S + 1) 0 2 ∧ s.get [false, true] = G N ∧ s.get [true, true] = .slice b6 0 (i0 + 1) (i0 + 1) ∧ s.get [false, false, false] = G ((i0 + 1 : Nat) : Int) ∧ s.get [true, false, false] = .slice b8 0 (i0 + 2) (i0 + 2) ∧ h = X) .normal (Q49 S bA bR N b6 b8 i0 n c r m d cs6 0) := Tr.post (fun s h q => by
    obtain ⟨p0, p1, p2, p3, p4, p5, p6, rfl⟩ := q
    exact ⟨cs0, ⟨p0, p1, p2, p3, p4, p5, p6, rfl⟩, mfX, o6X, o8X⟩) t6
  have t18 := ms_18 J (S := S) (bA := bA) (bR := bR) (N := N) (b6 := b6) (b8 := b8) (i0 := i0) (n := n) (c := c) (r := r) (m := m) (d := d) (cs6 := cs6)
  have t19 := ms_19 J (S := S) (bA := bA) (bR := bR) (N := N) (b8 := b8) (i0 := i0) (n := n) (c := c) (r := r) (m := m) (d := d) hb8' (by omega)
  have all := Tr.trim_seq t0 (Tr.seq (Tr.block_out (id := 1) (Tr.seq t5 (Tr.seq (Tr.seq tq (Tr.block ti)) t18)) (by simp)) t19)
  obtain ⟨p0, p1, p2, p3, p4⟩ := hf
  exact all s h ⟨p0, p1, p2, p3, p4, hH.symm⟩

theorem c49_ok (J : CallF) (k65 : K65 J) (hJ : ∀ a h, J 49 a h = none) (hm : HMs n c r m d N) (h : Heap) (g1 : h.get bA = .cells 1 N (zs (mA n c m d) N)) (g2 : h.get bR = .cells 1 N (zs (mR n r m d) N)) :
    CallsTo tbl J 49 [.agg [G n, G c, G r, G m, G d], .agg [.slice bA 0 N N, .slice bR 0 N N]] h (.bool true, [], false) := by
  have l1 := get_lt g1 (by simp)
  have l2 := get_lt g2 (by simp)
  have h1 := hm.h1
  have h2 := hm.h2
  have h3 := hm.h3
  have h4 := hm.h4
  refine Tr.fnv (cf := c49) (e := .ret) (s := T.set (T.set .leaf [] (.agg [G n, G c, G r, G m, G d])) [false] (.agg [.slice bA 0 N N, .slice bR 0 N N])) (by decide) rfl (hJ _ _) rfl rfl rfl (by simp) ?_
  refine Tr.post (Q := (fun s h => s.get [true, false] = .bool true)) (fun s h q => by simp [c49, q]) ?_
  have t0 : Tr tbl J ((.seq c49_o0 (.seq c49_o1 c49_o2))) (fun s h' => s = T.set (T.set .leaf [] (.agg [G n, G c, G r, G m, G d])) [false] (.agg [.slice bA 0 N N, .slice bR 0 N N]) ∧ h' = frameOf h) .normal (fun s h' => s.get [true] = .ptr h.size 0 5 ∧ s.get [false, false] = .ptr (h.size + 1) 0 2 ∧ s.get [false, true] = G N ∧ s.get [true, true] = .slice (h.size + 2) 0 1 1 ∧ h' = ⟨h.get, h.size, [.cells 0 5 [G n, G c, G r, G m, G d], .cells 0 2 [.slice bA 0 N N, .slice bR 0 N N], .cells 1 1 [.bool true]]⟩) := Tr.region fun s h hp => by
    obtain ⟨rfl, rfl⟩ := hp
    simp (disch := first | omega | exact getEq rfl | exact getO0 | exact Nat.le_of_ble_eq_true rfl) [c49_o0, c49_o1, c49_o2, frameOf, came_some, goI, List.getElem?_cons_zero, List.getElem?_cons_succ, kn, keep, frameOf, size_mk, get_mk_lt, get_mk_ge, Eff.app, Heap.setOwn, putAt, AV.cells, fillA, loadA, takeA, mk, Eff.isAll, Eff.isNone, Eff.commutes, Eff.spares, okPair, apart, eqAgg, fits, LK.fits, allEq, aveq, eqk, mmA, beqT, wrapI, idxI, tdivI, tmodI, decT, decF, ibT, ibF, inT, inF, evScope_c, if_pos, if_neg, h1]
  have t1 : Tr tbl J (c49_o3) (fun s h' => s.get [true] = .ptr h.size 0 5 ∧ s.get [false, false] = .ptr (h.size + 1) 0 2 ∧ s.get [false, true] = G N ∧ s.get [true, true] = .slice (h.size + 2) 0 1 1 ∧ h' = ⟨h.get, h.size, [.cells 0 5 [G n, G c, G r, G m, G d], .cells 0 2 [.slice bA 0 N N, .slice bR 0 N N], .cells 1 1 [.bool true]]⟩) .normal (fun s h' => s.get [true] = .ptr h.size 0 5 ∧ s.get [false, false] = .ptr (h.size + 1) 0 2 ∧ s.get [false, true] = G N ∧ s.get [true, true] = .slice (h.size + 2) 0 (0 + 1) (0 + 1) ∧ s.get [false, false, false] = G ((0 + 1 : Nat) : Int) ∧ h' = ⟨h.get, h.size, [.cells 0 5 [G n, G c, G r, G m, G d], .cells 0 2 [.slice bA 0 N N, .slice bR 0 N N], .cells 1 1 [.bool true]]⟩) := Tr.region fun s h hp => by
    obtain ⟨g0, g1, g2, g3, rfl⟩ := hp
    simp (disch := first | omega | exact getEq rfl | exact getO0 | exact Nat.le_of_ble_eq_true rfl) [c49_o3, came_some, goI, List.getElem?_cons_zero, List.getElem?_cons_succ, kn, keep, frameOf, size_mk, get_mk_lt, get_mk_ge, Eff.app, Heap.setOwn, putAt, AV.cells, fillA, loadA, takeA, mk, Eff.isAll, Eff.isNone, Eff.commutes, Eff.spares, okPair, apart, eqAgg, fits, LK.fits, allEq, aveq, eqk, mmA, beqT, wrapI, idxI, tdivI, tmodI, decT, decF, ibT, ibF, inT, inF, evScope_c, if_pos, if_neg, g0, g1, g2, g3]
  have t1' : Tr tbl J c49_o3 _ .normal (P49 h.size bA bR N n c r m d 0) := Tr.post (fun s h' q => by
    obtain ⟨p0, p1, p2, p3, p4, rfl⟩ := q
    refine ⟨h.size + 2, [.bool true], ⟨p0, p1, p2, p3, p4⟩, ⟨rfl, l1, l2, ?_, ?_, ?_, ?_⟩, ⟨?_, rfl, fun j hj => ⟨true, ?_⟩⟩, by omega⟩
    · rw [get_mk_ge _ _ _ _ (by omega), Nat.sub_self]; rfl
    · rw [get_mk_ge _ _ _ _ (by omega), Nat.add_sub_cancel_left]; rfl
    · rw [get_mk_lt _ _ _ _ l1]; exact g1
    · rw [get_mk_lt _ _ _ _ l2]; exact g2
    · rw [get_mk_ge _ _ _ _ (by omega), Nat.add_sub_cancel_left]; rfl
    · obtain rfl : j = 0 := by omega
      rfl) t1
  have t2 : Tr tbl J (.trim L49o c49_b1) (P49 h.size bA bR N n c r m d N) (.exit 0) (fun s h => True) := fun s hx hp => by
    obtain ⟨b6, cs6, hf, mf, o6, hb6⟩ := hp
    have t : Tr tbl J ((.trim L49o c49_b1)) (fun s h' => s.get [true] = .ptr h.size 0 5 ∧ s.get [false, false] = .ptr (h.size + 1) 0 2 ∧ s.get [false, true] = G N ∧ s.get [true, true] = .slice b6 0 (N + 1) (N + 1) ∧ s.get [false, false, false] = G ((N + 1 : Nat) : Int) ∧ h' = hx) (.exit 0) (fun s h => True) := Tr.region fun s h hp => by
      obtain ⟨g0, g1, g2, g3, g4, rfl⟩ := hp
      simp (disch := first | omega | exact getEq rfl | exact getO0 | exact Nat.le_of_ble_eq_true rfl) [c49_b1, c49_o4, came_some, goI, List.getElem?_cons_zero, List.getElem?_cons_succ, kn, keep, app_growP, app_noneP, plus_N, plus_at0, put_plus0, upd_N, upd_size, putAt, AV.cells, fillA, loadA, takeA, mk, Eff.isAll, Eff.isNone, Eff.commutes, Eff.spares, okPair, apart, eqAgg, fits, LK.fits, allEq, aveq, eqk, mmA, beqT, wrapI, idxI, tdivI, tmodI, decT, decF, ibT, ibF, inT, inF, evScope_c, if_pos, if_neg, g0, g1, g2, g3, g4]
    exact t s hx ⟨hf.1, hf.2.1, hf.2.2.1, hf.2.2.2.1, hf.2.2.2.2, rfl⟩
  have tl := Tr.rounds (P := P49 h.size bA bR N n c r m d) (M := N) (fun i hi => ms_step J k65 hm hi) t2 (by simp) 0 (by omega)
  have t3 : Tr tbl J ((.seq c49_o20 .ret)) (fun s h => True) .ret (fun s h => s.get [true, false] = .bool true) := Tr.region fun s h hp => by
    simp (disch := first | omega | exact getEq rfl | exact getO0 | exact Nat.le_of_ble_eq_true rfl) [c49_o20, came_some, goI, List.getElem?_cons_zero, List.getElem?_cons_succ, kn, keep, frameOf, Heap.size, Heap.get, Eff.app, Heap.setOwn, putAt, AV.cells, fillA, loadA, takeA, mk, Eff.isAll, Eff.isNone, Eff.commutes, Eff.spares, okPair, apart, eqAgg, fits, LK.fits, allEq, aveq, eqk, mmA, beqT, wrapI, idxI, tdivI, tmodI, decT, decF, ibT, ibF, inT, inF, evScope_c, if_pos, if_neg]
  exact Tr.app3 t0 (Tr.seq (Tr.seq t1' (Tr.block tl)) t3)
end

end Go.Proofs.Ytlkgpcfhpeilhaa.Ev
