/-
  What Bounds answers. No condition.
-/
import Derived.Test.YtjeemgaoonapgaaRBnd
set_option linter.unusedVariables false
set_option linter.unusedSimpArgs false
namespace Go.Proofs.Ytjeemgaoonapgaa.Ev
open Go Go.AEv

attribute [local simp] evFunc initS evOps_c evTrim_c evSkip_c evExit_c evRet_c evSeq_c evCond_c evBlock_c evDraw_c runOps_n runOps_c exec_n exec_g pure1_c act AOpd.ev T.get T.set T.put evBin evUn forceT_eq forceV_eq forceL_eq evRess evRes one keep runFP_n runFP_c app_none AV.flats AV.flat

theorem fill_p0 (h : Heap) (x : AObj) (xs : List AObj) : Eff.app (.fill h.size x) (h.plus (.hole :: xs)) = some (h.plus (x :: xs)) := by
  have h1 : ¬ h.size < h.N := by unfold Heap.size; omega
  have h2 : h.size - h.N = h.own.length := by unfold Heap.size; omega
  simp only [Eff.app, Heap.plus, h1, if_false, h2]
  rw [List.getElem?_append_right (by omega), Nat.sub_self]
  simp only [List.getElem?_cons_zero, Heap.setOwn_eq, h2]
  rw [List.set_append_right _ _ (by omega), Nat.sub_self]; rfl
theorem evDraw_1 (r : Rec) (os : List COper) (ps : List (Nat × Nat)) (anc : List (List Nat)) (s : T) (h : Heap) : evCode r (.draw 1 os ps anc) s h = match runFP r.call h os s (h.plus [.hole]) with
    | some (s', h', fps) => if ps.all (fun p => okPair h.size (fps.getD p.1 {}) (fps.getD p.2 {})) && (fps.all (fun f => !f.eff.isAll) || bars anc fps) then some (.normal, s', h') else none
    | none => none := evDraw_c r 1 os ps anc s h

section
variable {n : Nat}
abbrev L20 : List Path := [[false], [true, false], [false, true], [false, true, false], [true, true, false], [false, true, true, false, false], [true, true, true, false, false], [false, false, false, true, false]]
theorem n20_a (J : CallF) (H : Heap) (k60 : K60 J) {bx vx bo p i : Nat} {cx co : List AV} {yi xi : Int} (gx : H.get bx = .cells 1 vx cx) (go : H.get bo = .cells 1 n co) (x1 : cx[i]? = some (G xi)) (y1 : co[i]? = some (G yi)) (hi : i < n) (h8 : n ≤ 8) (b1 : 0 ≤ yi ∧ yi ≤ 7200000000) (b2 : 1 ≤ xi ∧ xi ≤ 100000000) :
    Tr tbl J (.seq c20_o7 (.seq c20_o8 c20_o9)) (fun s h => s.get [false] = .slice bx 0 n vx ∧ s.get [true, false] = .ptr p 0 2 ∧ s.get [false, true] = .ptr (p + 1) 0 2 ∧ s.get [false, true, false] = .ptr (p + 3) 0 2 ∧ s.get [true, true, false] = .ptr (p + 4) 0 2 ∧ s.get [false, true, true, false, false] = .slice bo 0 n n ∧ s.get [true, true, true, false, false] = G n ∧ s.get [false, false, false, true, false] = G i ∧ h = H) .normal
      (fun s h => s.get [false] = .slice bx 0 n vx ∧ s.get [true, false] = .ptr p 0 2 ∧ s.get [false, true] = .ptr (p + 1) 0 2 ∧ s.get [false, true, false] = .ptr (p + 3) 0 2 ∧ s.get [true, true, false] = .ptr (p + 4) 0 2 ∧ s.get [false, false, true] = G i ∧ s.get [true, true, true] = .ptr H.size 0 2 ∧ s.get [false, true, true, false, false] = .slice bo 0 n n ∧ s.get [true, true, true, false, false] = G n ∧ s.get [false, false, false, true, false] = G i ∧ h = H.plus [.cells 0 2 [G (frU yi xi), G (frV yi xi)]]) := by
  have ka := fun h => k60 yi xi h b1.1 (by omega) (by omega) (by omega)
  have hf := frOk b1.1 (show 0 < xi by omega)
  have hu := hf.u
  have hv := hf.v
  have hg : 0 < Nat.gcd yi.toNat xi.toNat := Nat.gcd_pos_of_pos_right _ (by omega)
  have eu : frU yi xi = yi / (Nat.gcd yi.toNat xi.toNat : Int) := rfl
  have ev : frV yi xi = xi / (Nat.gcd yi.toNat xi.toNat : Int) := rfl
  rw [eu] at hu ⊢
  rw [ev] at hv ⊢
  clear eu ev hf
  have x1' : ∀ h : i < cx.length, cx[i] = G xi := fun h => by rw [List.getElem?_eq_getElem h] at x1; exact Option.some.inj x1
  have y1' : ∀ h : i < co.length, co[i] = G yi := fun h => by rw [List.getElem?_eq_getElem h] at y1; exact Option.some.inj y1
  generalize Nat.gcd yi.toNat xi.toNat = g at *
  have hg0 : ¬ (g : Int) = 0 := by omega
  have hg1 : ¬ g = 0 := by omega
  have gx2 := plus_keep [.hole] gx (by simp)
  have hbn : ¬ bx = H.size := fun e => by have := get_lt gx (by simp); omega
  have pf := put_plus0 H 2 0 0 [G 0, G 0] [G (yi / (g : Int)), G (xi / (g : Int))] [] H.size rfl (by simp)
  have t1 : Tr tbl J ((.seq c20_o7 c20_o8)) (fun s h => s.get [false] = .slice bx 0 n vx ∧ s.get [true, false] = .ptr p 0 2 ∧ s.get [false, true] = .ptr (p + 1) 0 2 ∧ s.get [false, true, false] = .ptr (p + 3) 0 2 ∧ s.get [true, true, false] = .ptr (p + 4) 0 2 ∧ s.get [false, true, true, false, false] = .slice bo 0 n n ∧ s.get [true, true, true, false, false] = G n ∧ s.get [false, false, false, true, false] = G i ∧ h = H) .normal (fun s h => s.get [false] = .slice bx 0 n vx ∧ s.get [true, false] = .ptr p 0 2 ∧ s.get [false, true] = .ptr (p + 1) 0 2 ∧ s.get [false, true, false] = .ptr (p + 3) 0 2 ∧ s.get [true, true, false] = .ptr (p + 4) 0 2 ∧ s.get [false, false, true] = G i ∧ s.get [true, false, true] = G yi ∧ s.get [false, true, true] = G g ∧ s.get [false, true, true, false, false] = .slice bo 0 n n ∧ s.get [true, true, true, false, false] = G n ∧ s.get [false, false, false, true, false] = G i ∧ h = H) := Tr.region fun s h hp => by
    obtain ⟨g0, g1, g2, g3, g4, g5, g6, g7, rfl⟩ := hp
    simp (disch := first | omega | exact getEq rfl | exact getO0 | exact Nat.le_of_ble_eq_true rfl) [c20_o7, c20_o8, came_some, goI, List.getElem?_cons_zero, List.getElem?_cons_succ, kn, keep, app_growP, app_noneP, plus_N, plus_at0, put_plus0, upd_N, upd_size, putAt, AV.cells, fillA, loadA, takeA, mk, Eff.isAll, Eff.isNone, Eff.commutes, Eff.spares, okPair, apart, eqAgg, fits, LK.fits, allEq, aveq, eqk, mmA, beqT, wrapI, idxI, tdivI, tmodI, decT, decF, ibT, ibF, inT, inF, evScope_c, if_pos, if_neg, g0, g1, g2, g3, g4, g5, g6, g7, gx, go, x1, y1, x1', y1', ka]
  have t2 : Tr tbl J (c20_o9) (fun s h => s.get [false] = .slice bx 0 n vx ∧ s.get [true, false] = .ptr p 0 2 ∧ s.get [false, true] = .ptr (p + 1) 0 2 ∧ s.get [false, true, false] = .ptr (p + 3) 0 2 ∧ s.get [true, true, false] = .ptr (p + 4) 0 2 ∧ s.get [false, false, true] = G i ∧ s.get [true, false, true] = G yi ∧ s.get [false, true, true] = G g ∧ s.get [false, true, true, false, false] = .slice bo 0 n n ∧ s.get [true, true, true, false, false] = G n ∧ s.get [false, false, false, true, false] = G i ∧ h = H) .normal (fun s h => s.get [false] = .slice bx 0 n vx ∧ s.get [true, false] = .ptr p 0 2 ∧ s.get [false, true] = .ptr (p + 1) 0 2 ∧ s.get [false, true, false] = .ptr (p + 3) 0 2 ∧ s.get [true, true, false] = .ptr (p + 4) 0 2 ∧ s.get [false, false, true] = G i ∧ s.get [true, true, true] = .ptr H.size 0 2 ∧ s.get [false, true, true, false, false] = .slice bo 0 n n ∧ s.get [true, true, true, false, false] = G n ∧ s.get [false, false, false, true, false] = G i ∧ h = H.plus [.cells 0 2 [G (yi / (g : Int)), G (xi / (g : Int))]]) := Tr.region fun s h hp => by
    obtain ⟨g0, g1, g2, g3, g4, g5, g6, g7, g8, g9, g10, rfl⟩ := hp
    simp (disch := first | omega | exact getEq rfl | exact getO0 | exact Nat.le_of_ble_eq_true rfl) [-evDraw_c, c20_o9, came_some, goI, List.getElem?_cons_zero, List.getElem?_cons_succ, kn, keep, app_growP, app_noneP, plus_N, plus_at0, put_plus0, upd_N, upd_size, putAt, AV.cells, fillA, loadA, takeA, mk, Eff.isAll, Eff.isNone, Eff.commutes, Eff.spares, okPair, apart, eqAgg, fits, LK.fits, allEq, aveq, eqk, mmA, beqT, wrapI, idxI, tdivI, tmodI, decT, decF, ibT, ibF, inT, inF, evScope_c, if_pos, if_neg, g0, g1, g2, g3, g4, g5, g6, g7, g8, g9, g10, evDraw_1, gx2, x1, x1', fill_p0, pf, hg0, hg1, nnT, hbn]
  exact Tr.app2 t1 t2
theorem n20_lo (J : CallF) (H : Heap) {bx vx bo p q i : Nat} {u v lu lv : Int} (gq : H.get q = .cells 0 2 [G u, G v]) (m9 : H.get (p + 3) = .cells 0 2 [G lu, G lv]) (hN : H.N ≤ p) (hc : 0 ≤ u * lv ∧ u * lv ≤ 9000000000000000000) (hd : 0 ≤ lu * v ∧ lu * v ≤ 9000000000000000000) (h8 : n ≤ 8) :
    Tr tbl J (.seq c20_o10 (.cond (.s [true, true, false, true, false, false]) c20_o11 .skip)) (fun s h => s.get [false] = .slice bx 0 n vx ∧ s.get [true, false] = .ptr p 0 2 ∧ s.get [false, true] = .ptr (p + 1) 0 2 ∧ s.get [false, true, false] = .ptr (p + 3) 0 2 ∧ s.get [true, true, false] = .ptr (p + 4) 0 2 ∧ s.get [false, false, true] = G i ∧ s.get [true, true, true] = .ptr q 0 2 ∧ s.get [false, true, true, false, false] = .slice bo 0 n n ∧ s.get [true, true, true, false, false] = G n ∧ s.get [false, false, false, true, false] = G i ∧ h = H) .normal
      (fun s h => s.get [false] = .slice bx 0 n vx ∧ s.get [true, false] = .ptr p 0 2 ∧ s.get [false, true] = .ptr (p + 1) 0 2 ∧ s.get [false, true, false] = .ptr (p + 3) 0 2 ∧ s.get [true, true, false] = .ptr (p + 4) 0 2 ∧ s.get [false, false, true] = G i ∧ s.get [true, true, true] = .ptr q 0 2 ∧ s.get [false, true, true, false, false] = .slice bo 0 n n ∧ s.get [true, true, true, false, false] = G n ∧ s.get [false, false, false, true, false] = G i ∧ h = if i = 0 ∨ u * lv < lu * v then H.upd (p + 3) (.cells 0 2 [G u, G v]) else H) := by
  have pp := put_gen H (p + 3) 2 0 0 [G lu, G lv] [G u, G v] (by omega) m9 (by simp)
  by_cases c0 : i = 0
  · rw [if_pos (.inl c0)]
    subst c0
    have t : Tr tbl J ((.seq c20_o10 (.cond (.s [true, true, false, true, false, false]) c20_o11 .skip))) (fun s h => s.get [false] = .slice bx 0 n vx ∧ s.get [true, false] = .ptr p 0 2 ∧ s.get [false, true] = .ptr (p + 1) 0 2 ∧ s.get [false, true, false] = .ptr (p + 3) 0 2 ∧ s.get [true, true, false] = .ptr (p + 4) 0 2 ∧ s.get [false, false, true] = G ((0 : Nat) : Int) ∧ s.get [true, true, true] = .ptr q 0 2 ∧ s.get [false, true, true, false, false] = .slice bo 0 n n ∧ s.get [true, true, true, false, false] = G n ∧ s.get [false, false, false, true, false] = G ((0 : Nat) : Int) ∧ h = H) .normal (fun s h => s.get [false] = .slice bx 0 n vx ∧ s.get [true, false] = .ptr p 0 2 ∧ s.get [false, true] = .ptr (p + 1) 0 2 ∧ s.get [false, true, false] = .ptr (p + 3) 0 2 ∧ s.get [true, true, false] = .ptr (p + 4) 0 2 ∧ s.get [false, false, true] = G ((0 : Nat) : Int) ∧ s.get [true, true, true] = .ptr q 0 2 ∧ s.get [false, true, true, false, false] = .slice bo 0 n n ∧ s.get [true, true, true, false, false] = G n ∧ s.get [false, false, false, true, false] = G ((0 : Nat) : Int) ∧ h = H.upd (p + 3) (.cells 0 2 [G u, G v])) := Tr.region fun s h hp => by
      obtain ⟨g0, g1, g2, g3, g4, g5, g6, g7, g8, g9, rfl⟩ := hp
      simp (disch := first | omega | exact getEq rfl | exact getO0 | exact Nat.le_of_ble_eq_true rfl) [c20_o10, c20_o11, came_some, goI, List.getElem?_cons_zero, List.getElem?_cons_succ, kn, keep, app_growP, app_noneP, plus_N, plus_at0, put_plus0, upd_N, upd_size, putAt, AV.cells, fillA, loadA, takeA, mk, Eff.isAll, Eff.isNone, Eff.commutes, Eff.spares, okPair, apart, eqAgg, fits, LK.fits, allEq, aveq, eqk, mmA, beqT, wrapI, idxI, tdivI, tmodI, decT, decF, ibT, ibF, inT, inF, evScope_c, if_pos, if_neg, g0, g1, g2, g3, g4, g5, g6, g7, g8, g9, gq, m9, pp]
    exact t
  · have c0' : ¬ (i : Int) = 0 := by omega
    by_cases c1 : u * lv < lu * v
    · rw [if_pos (.inr c1)]
      have t : Tr tbl J ((.seq c20_o10 (.cond (.s [true, true, false, true, false, false]) c20_o11 .skip))) (fun s h => s.get [false] = .slice bx 0 n vx ∧ s.get [true, false] = .ptr p 0 2 ∧ s.get [false, true] = .ptr (p + 1) 0 2 ∧ s.get [false, true, false] = .ptr (p + 3) 0 2 ∧ s.get [true, true, false] = .ptr (p + 4) 0 2 ∧ s.get [false, false, true] = G i ∧ s.get [true, true, true] = .ptr q 0 2 ∧ s.get [false, true, true, false, false] = .slice bo 0 n n ∧ s.get [true, true, true, false, false] = G n ∧ s.get [false, false, false, true, false] = G i ∧ h = H) .normal (fun s h => s.get [false] = .slice bx 0 n vx ∧ s.get [true, false] = .ptr p 0 2 ∧ s.get [false, true] = .ptr (p + 1) 0 2 ∧ s.get [false, true, false] = .ptr (p + 3) 0 2 ∧ s.get [true, true, false] = .ptr (p + 4) 0 2 ∧ s.get [false, false, true] = G i ∧ s.get [true, true, true] = .ptr q 0 2 ∧ s.get [false, true, true, false, false] = .slice bo 0 n n ∧ s.get [true, true, true, false, false] = G n ∧ s.get [false, false, false, true, false] = G i ∧ h = H.upd (p + 3) (.cells 0 2 [G u, G v])) := Tr.region fun s h hp => by
        obtain ⟨g0, g1, g2, g3, g4, g5, g6, g7, g8, g9, rfl⟩ := hp
        simp (disch := first | omega | exact getEq rfl | exact getO0 | exact Nat.le_of_ble_eq_true rfl) [c20_o10, c20_o11, came_some, goI, List.getElem?_cons_zero, List.getElem?_cons_succ, kn, keep, app_growP, app_noneP, plus_N, plus_at0, put_plus0, upd_N, upd_size, putAt, AV.cells, fillA, loadA, takeA, mk, Eff.isAll, Eff.isNone, Eff.commutes, Eff.spares, okPair, apart, eqAgg, fits, LK.fits, allEq, aveq, eqk, mmA, beqT, wrapI, idxI, tdivI, tmodI, decT, decF, ibT, ibF, inT, inF, evScope_c, if_pos, if_neg, g0, g1, g2, g3, g4, g5, g6, g7, g8, g9, gq, m9, pp, c0, c0', c1]
      exact t
    · rw [if_neg (by rintro (a | a) <;> contradiction)]
      have t : Tr tbl J ((.seq c20_o10 (.cond (.s [true, true, false, true, false, false]) c20_o11 .skip))) (fun s h => s.get [false] = .slice bx 0 n vx ∧ s.get [true, false] = .ptr p 0 2 ∧ s.get [false, true] = .ptr (p + 1) 0 2 ∧ s.get [false, true, false] = .ptr (p + 3) 0 2 ∧ s.get [true, true, false] = .ptr (p + 4) 0 2 ∧ s.get [false, false, true] = G i ∧ s.get [true, true, true] = .ptr q 0 2 ∧ s.get [false, true, true, false, false] = .slice bo 0 n n ∧ s.get [true, true, true, false, false] = G n ∧ s.get [false, false, false, true, false] = G i ∧ h = H) .normal (fun s h => s.get [false] = .slice bx 0 n vx ∧ s.get [true, false] = .ptr p 0 2 ∧ s.get [false, true] = .ptr (p + 1) 0 2 ∧ s.get [false, true, false] = .ptr (p + 3) 0 2 ∧ s.get [true, true, false] = .ptr (p + 4) 0 2 ∧ s.get [false, false, true] = G i ∧ s.get [true, true, true] = .ptr q 0 2 ∧ s.get [false, true, true, false, false] = .slice bo 0 n n ∧ s.get [true, true, true, false, false] = G n ∧ s.get [false, false, false, true, false] = G i ∧ h = H) := Tr.region fun s h hp => by
        obtain ⟨g0, g1, g2, g3, g4, g5, g6, g7, g8, g9, rfl⟩ := hp
        simp (disch := first | omega | exact getEq rfl | exact getO0 | exact Nat.le_of_ble_eq_true rfl) [c20_o10, c20_o11, came_some, goI, List.getElem?_cons_zero, List.getElem?_cons_succ, kn, keep, app_growP, app_noneP, plus_N, plus_at0, put_plus0, upd_N, upd_size, putAt, AV.cells, fillA, loadA, takeA, mk, Eff.isAll, Eff.isNone, Eff.commutes, Eff.spares, okPair, apart, eqAgg, fits, LK.fits, allEq, aveq, eqk, mmA, beqT, wrapI, idxI, tdivI, tmodI, decT, decF, ibT, ibF, inT, inF, evScope_c, if_pos, if_neg, g0, g1, g2, g3, g4, g5, g6, g7, g8, g9, gq, m9, pp, c0, c0', c1]
      exact t
theorem n20_hi (J : CallF) (H : Heap) {bx vx bo p q i : Nat} {u v lu lv : Int} (gq : H.get q = .cells 0 2 [G u, G v]) (g10 : H.get (p + 4) = .cells 0 2 [G lu, G lv]) (hN : H.N ≤ p) (hc : 0 ≤ u * lv ∧ u * lv ≤ 9000000000000000000) (hd : 0 ≤ lu * v ∧ lu * v ≤ 9000000000000000000) (h8 : n ≤ 8) :
    Tr tbl J (.seq c20_o12 (.cond (.s [true, true, false, true, true, false]) c20_o13 .skip)) (fun s h => s.get [false] = .slice bx 0 n vx ∧ s.get [true, false] = .ptr p 0 2 ∧ s.get [false, true] = .ptr (p + 1) 0 2 ∧ s.get [false, true, false] = .ptr (p + 3) 0 2 ∧ s.get [true, true, false] = .ptr (p + 4) 0 2 ∧ s.get [false, false, true] = G i ∧ s.get [true, true, true] = .ptr q 0 2 ∧ s.get [false, true, true, false, false] = .slice bo 0 n n ∧ s.get [true, true, true, false, false] = G n ∧ s.get [false, false, false, true, false] = G i ∧ h = H) .normal
      (fun s h => s.get [false] = .slice bx 0 n vx ∧ s.get [true, false] = .ptr p 0 2 ∧ s.get [false, true] = .ptr (p + 1) 0 2 ∧ s.get [false, true, false] = .ptr (p + 3) 0 2 ∧ s.get [true, true, false] = .ptr (p + 4) 0 2 ∧ s.get [false, true, true, false, false] = .slice bo 0 n n ∧ s.get [true, true, true, false, false] = G n ∧ s.get [false, false, false, true, false] = G i ∧ h = if i = 0 ∨ lu * v < u * lv then H.upd (p + 4) (.cells 0 2 [G u, G v]) else H) := by
  have pp := put_gen H (p + 4) 2 0 0 [G lu, G lv] [G u, G v] (by omega) g10 (by simp)
  have m10 := g10
  clear g10
  by_cases c0 : i = 0
  · rw [if_pos (.inl c0)]
    subst c0
    have t : Tr tbl J ((.seq c20_o12 (.cond (.s [true, true, false, true, true, false]) c20_o13 .skip))) (fun s h => s.get [false] = .slice bx 0 n vx ∧ s.get [true, false] = .ptr p 0 2 ∧ s.get [false, true] = .ptr (p + 1) 0 2 ∧ s.get [false, true, false] = .ptr (p + 3) 0 2 ∧ s.get [true, true, false] = .ptr (p + 4) 0 2 ∧ s.get [false, false, true] = G ((0 : Nat) : Int) ∧ s.get [true, true, true] = .ptr q 0 2 ∧ s.get [false, true, true, false, false] = .slice bo 0 n n ∧ s.get [true, true, true, false, false] = G n ∧ s.get [false, false, false, true, false] = G ((0 : Nat) : Int) ∧ h = H) .normal (fun s h => s.get [false] = .slice bx 0 n vx ∧ s.get [true, false] = .ptr p 0 2 ∧ s.get [false, true] = .ptr (p + 1) 0 2 ∧ s.get [false, true, false] = .ptr (p + 3) 0 2 ∧ s.get [true, true, false] = .ptr (p + 4) 0 2 ∧ s.get [false, true, true, false, false] = .slice bo 0 n n ∧ s.get [true, true, true, false, false] = G n ∧ s.get [false, false, false, true, false] = G ((0 : Nat) : Int) ∧ h = H.upd (p + 4) (.cells 0 2 [G u, G v])) := Tr.region fun s h hp => by
      obtain ⟨g0, g1, g2, g3, g4, g5, g6, g7, g8, g9, rfl⟩ := hp
      simp (disch := first | omega | exact getEq rfl | exact getO0 | exact Nat.le_of_ble_eq_true rfl) [c20_o12, c20_o13, came_some, goI, List.getElem?_cons_zero, List.getElem?_cons_succ, kn, keep, app_growP, app_noneP, plus_N, plus_at0, put_plus0, upd_N, upd_size, putAt, AV.cells, fillA, loadA, takeA, mk, Eff.isAll, Eff.isNone, Eff.commutes, Eff.spares, okPair, apart, eqAgg, fits, LK.fits, allEq, aveq, eqk, mmA, beqT, wrapI, idxI, tdivI, tmodI, decT, decF, ibT, ibF, inT, inF, evScope_c, if_pos, if_neg, g0, g1, g2, g3, g4, g5, g6, g7, g8, g9, gq, m10, pp]
    exact t
  · have c0' : ¬ (i : Int) = 0 := by omega
    by_cases c1 : lu * v < u * lv
    · rw [if_pos (.inr c1)]
      have t : Tr tbl J ((.seq c20_o12 (.cond (.s [true, true, false, true, true, false]) c20_o13 .skip))) (fun s h => s.get [false] = .slice bx 0 n vx ∧ s.get [true, false] = .ptr p 0 2 ∧ s.get [false, true] = .ptr (p + 1) 0 2 ∧ s.get [false, true, false] = .ptr (p + 3) 0 2 ∧ s.get [true, true, false] = .ptr (p + 4) 0 2 ∧ s.get [false, false, true] = G i ∧ s.get [true, true, true] = .ptr q 0 2 ∧ s.get [false, true, true, false, false] = .slice bo 0 n n ∧ s.get [true, true, true, false, false] = G n ∧ s.get [false, false, false, true, false] = G i ∧ h = H) .normal (fun s h => s.get [false] = .slice bx 0 n vx ∧ s.get [true, false] = .ptr p 0 2 ∧ s.get [false, true] = .ptr (p + 1) 0 2 ∧ s.get [false, true, false] = .ptr (p + 3) 0 2 ∧ s.get [true, true, false] = .ptr (p + 4) 0 2 ∧ s.get [false, true, true, false, false] = .slice bo 0 n n ∧ s.get [true, true, true, false, false] = G n ∧ s.get [false, false, false, true, false] = G i ∧ h = H.upd (p + 4) (.cells 0 2 [G u, G v])) := Tr.region fun s h hp => by
        obtain ⟨g0, g1, g2, g3, g4, g5, g6, g7, g8, g9, rfl⟩ := hp
        simp (disch := first | omega | exact getEq rfl | exact getO0 | exact Nat.le_of_ble_eq_true rfl) [c20_o12, c20_o13, came_some, goI, List.getElem?_cons_zero, List.getElem?_cons_succ, kn, keep, app_growP, app_noneP, plus_N, plus_at0, put_plus0, upd_N, upd_size, putAt, AV.cells, fillA, loadA, takeA, mk, Eff.isAll, Eff.isNone, Eff.commutes, Eff.spares, okPair, apart, eqAgg, fits, LK.fits, allEq, aveq, eqk, mmA, beqT, wrapI, idxI, tdivI, tmodI, decT, decF, ibT, ibF, inT, inF, evScope_c, if_pos, if_neg, g0, g1, g2, g3, g4, g5, g6, g7, g8, g9, gq, m10, pp, c0, c0', c1]
      exact t
    · rw [if_neg (by rintro (a | a) <;> contradiction)]
      have t : Tr tbl J ((.seq c20_o12 (.cond (.s [true, true, false, true, true, false]) c20_o13 .skip))) (fun s h => s.get [false] = .slice bx 0 n vx ∧ s.get [true, false] = .ptr p 0 2 ∧ s.get [false, true] = .ptr (p + 1) 0 2 ∧ s.get [false, true, false] = .ptr (p + 3) 0 2 ∧ s.get [true, true, false] = .ptr (p + 4) 0 2 ∧ s.get [false, false, true] = G i ∧ s.get [true, true, true] = .ptr q 0 2 ∧ s.get [false, true, true, false, false] = .slice bo 0 n n ∧ s.get [true, true, true, false, false] = G n ∧ s.get [false, false, false, true, false] = G i ∧ h = H) .normal (fun s h => s.get [false] = .slice bx 0 n vx ∧ s.get [true, false] = .ptr p 0 2 ∧ s.get [false, true] = .ptr (p + 1) 0 2 ∧ s.get [false, true, false] = .ptr (p + 3) 0 2 ∧ s.get [true, true, false] = .ptr (p + 4) 0 2 ∧ s.get [false, true, true, false, false] = .slice bo 0 n n ∧ s.get [true, true, true, false, false] = G n ∧ s.get [false, false, false, true, false] = G i ∧ h = H) := Tr.region fun s h hp => by
        obtain ⟨g0, g1, g2, g3, g4, g5, g6, g7, g8, g9, rfl⟩ := hp
        simp (disch := first | omega | exact getEq rfl | exact getO0 | exact Nat.le_of_ble_eq_true rfl) [c20_o12, c20_o13, came_some, goI, List.getElem?_cons_zero, List.getElem?_cons_succ, kn, keep, app_growP, app_noneP, plus_N, plus_at0, put_plus0, upd_N, upd_size, putAt, AV.cells, fillA, loadA, takeA, mk, Eff.isAll, Eff.isNone, Eff.commutes, Eff.spares, okPair, apart, eqAgg, fits, LK.fits, allEq, aveq, eqk, mmA, beqT, wrapI, idxI, tdivI, tmodI, decT, decF, ibT, ibF, inT, inF, evScope_c, if_pos, if_neg, g0, g1, g2, g3, g4, g5, g6, g7, g8, g9, gq, m10, pp, c0, c0', c1]
      exact t
end

/-! ### A round -/
/-- What stands in 'low' (or 'high') after i rounds, where k is the first of the smallest quotients. -/
def bU (Y X : Nat → Int) (i k : Nat) : Int := if i = 0 then 0 else frU (Y k) (X k)
def bV (Y X : Nat → Int) (i k : Nat) : Int := if i = 0 then 0 else frV (Y k) (X k)
structure Z20 (H1 : Heap) (p : Nat) (Y X : Nat → Int) (i : Nat) (H : Heap) : Prop where
  k : Kp (fun q => q = p + 3 ∨ q = p + 4) H1 H
  lo : H.get (p + 3) = .cells 0 2 [G (bU Y X i (loI Y X i)), G (bV Y X i (loI Y X i))]
  hi : H.get (p + 4) = .cells 0 2 [G (bU Y X i (hiI Y X i)), G (bV Y X i (hiI Y X i))]
section
variable {Y X : Nat → Int} {n : Nat}
theorem b_bd (hyx : YX Y X n) {i k : Nat} (hk : 0 < i → k < n) : (0 ≤ bU Y X i k ∧ bU Y X i k ≤ 7200000000) ∧ (0 ≤ bV Y X i k ∧ bV Y X i k ≤ 100000000) := by
  unfold bU bV
  by_cases c : i = 0
  · rw [if_pos c, if_pos c]; decide
  · rw [if_neg c, if_neg c]
    have hk' := hk (by omega)
    have a := hyx.y k hk'
    have b := hyx.x k hk'
    have f := frOk a.1 (show 0 < X k by omega)
    have := f.u
    have := f.v
    omega
theorem n20_step (J : CallF) (k60 : K60 J) {H1 H : Heap} {bx vx bo p i : Nat} {cx co : List AV} (gx : H1.get bx = .cells 1 vx cx) (go : H1.get bo = .cells 1 n co) (hbx : bx < p) (hbo : p + 4 < bo) (hN : H1.N = p) (hs : p + 4 < H1.size) (ex : ∀ i, i < n → cx[i]? = some (G (X i))) (eo : ∀ i, i < n → co[i]? = some (G (Y i))) (hyx : YX Y X n) (hi : i < n) (h8 : n ≤ 8) (z : Z20 H1 p Y X i H) :
    Tr tbl J (.trim L20 c20_b0) (fun s h => s.get [false] = .slice bx 0 n vx ∧ s.get [true, false] = .ptr p 0 2 ∧ s.get [false, true] = .ptr (p + 1) 0 2 ∧ s.get [false, true, false] = .ptr (p + 3) 0 2 ∧ s.get [true, true, false] = .ptr (p + 4) 0 2 ∧ s.get [false, true, true, false, false] = .slice bo 0 n n ∧ s.get [true, true, true, false, false] = G n ∧ s.get [false, false, false, true, false] = G i ∧ h = H) .normal
      (fun s h => s.get [false] = .slice bx 0 n vx ∧ s.get [true, false] = .ptr p 0 2 ∧ s.get [false, true] = .ptr (p + 1) 0 2 ∧ s.get [false, true, false] = .ptr (p + 3) 0 2 ∧ s.get [true, true, false] = .ptr (p + 4) 0 2 ∧ s.get [false, true, true, false, false] = .slice bo 0 n n ∧ s.get [true, true, true, false, false] = G n ∧ s.get [false, false, false, true, false] = G ((i + 1 : Nat) : Int) ∧ Z20 H1 p Y X (i + 1) h) := by
  have hNH : H.N = p := by rw [z.k.N, hN]
  have gxH := z.k.at gx (by simp) (by rintro (e | e) <;> omega)
  have goH := z.k.at go (by simp) (by rintro (e | e) <;> omega)
  have yi := hyx.y i hi
  have xi := hyx.x i hi
  have fi := frOk yi.1 (show 0 < X i by omega)
  have ta := n20_a J H k60 (p := p) gxH goH (ex i hi) (eo i hi) hi h8 yi xi
  have hlo : 0 < i → loI Y X i < n := fun h => by have := loI_lt Y X i h; omega
  have hhi : 0 < i → hiI Y X i < n := fun h => by have := hiI_lt Y X i h; omega
  obtain ⟨lb1, lb2⟩ := b_bd hyx hlo
  obtain ⟨hb1, hb2⟩ := b_bd hyx hhi
  have fu := fi.u
  have fv := fi.v
  have hlo9 := z.lo
  have hhi10 := z.hi
  have clo : i = 0 ∨ frU (Y i) (X i) * bV Y X i (loI Y X i) < bU Y X i (loI Y X i) * frV (Y i) (X i) ↔ loI Y X (i + 1) = i := by
    show _ ↔ (if Y i * X (loI Y X i) < Y (loI Y X i) * X i then i else loI Y X i) = i
    by_cases c : i = 0
    · subst c
      refine ⟨fun _ => by split <;> rfl, fun _ => .inl rfl⟩
    · have l1 := loI_lt Y X i (by omega)
      have l2 := hlo (by omega)
      have f2 := frOk (hyx.y _ l2).1 (show 0 < X (loI Y X i) by have := hyx.x _ l2; omega)
      unfold bU bV
      rw [if_neg c, if_neg c, fr_lt fi f2]
      constructor
      · rintro (e | e)
        · exact absurd e c
        · rw [if_pos e]
      · intro e
        by_cases c2 : Y i * X (loI Y X i) < Y (loI Y X i) * X i
        · exact .inr c2
        · rw [if_neg c2] at e; omega
  have chi : i = 0 ∨ bU Y X i (hiI Y X i) * frV (Y i) (X i) < frU (Y i) (X i) * bV Y X i (hiI Y X i) ↔ hiI Y X (i + 1) = i := by
    show _ ↔ (if Y (hiI Y X i) * X i < Y i * X (hiI Y X i) then i else hiI Y X i) = i
    by_cases c : i = 0
    · subst c
      refine ⟨fun _ => by split <;> rfl, fun _ => .inl rfl⟩
    · have l1 := hiI_lt Y X i (by omega)
      have l2 := hhi (by omega)
      have f2 := frOk (hyx.y _ l2).1 (show 0 < X (hiI Y X i) by have := hyx.x _ l2; omega)
      unfold bU bV
      rw [if_neg c, if_neg c, fr_lt f2 fi]
      constructor
      · rintro (e | e)
        · exact absurd e c
        · rw [if_pos e]
      · intro e
        by_cases c2 : Y (hiI Y X i) * X i < Y i * X (hiI Y X i)
        · exact .inr c2
        · rw [if_neg c2] at e; omega
  have nlo : ¬ (loI Y X (i + 1) = i) → bU Y X (i + 1) (loI Y X (i + 1)) = bU Y X i (loI Y X i) ∧ bV Y X (i + 1) (loI Y X (i + 1)) = bV Y X i (loI Y X i) := fun e => by
    have hi0 : ¬ i = 0 := fun q => e (clo.1 (.inl q))
    have : loI Y X (i + 1) = loI Y X i := by
      have e' : loI Y X (i + 1) = if Y i * X (loI Y X i) < Y (loI Y X i) * X i then i else loI Y X i := rfl
      rw [e'] at e ⊢
      split
      · rename_i c; rw [if_pos c] at e; exact absurd rfl e
      · rfl
    rw [this]
    unfold bU bV
    rw [if_neg hi0, if_neg hi0, if_neg (show ¬ i + 1 = 0 by omega), if_neg (show ¬ i + 1 = 0 by omega)]
    exact ⟨rfl, rfl⟩
  have nhi : ¬ (hiI Y X (i + 1) = i) → bU Y X (i + 1) (hiI Y X (i + 1)) = bU Y X i (hiI Y X i) ∧ bV Y X (i + 1) (hiI Y X (i + 1)) = bV Y X i (hiI Y X i) := fun e => by
    have hi0 : ¬ i = 0 := fun q => e (chi.1 (.inl q))
    have : hiI Y X (i + 1) = hiI Y X i := by
      have e' : hiI Y X (i + 1) = if Y (hiI Y X i) * X i < Y i * X (hiI Y X i) then i else hiI Y X i := rfl
      rw [e'] at e ⊢
      split
      · rename_i c; rw [if_pos c] at e; exact absurd rfl e
      · rfl
    rw [this]
    unfold bU bV
    rw [if_neg hi0, if_neg hi0, if_neg (show ¬ i + 1 = 0 by omega), if_neg (show ¬ i + 1 = 0 by omega)]
    exact ⟨rfl, rfl⟩
  have ylo : ∀ k, k = i → bU Y X (i + 1) k = frU (Y i) (X i) ∧ bV Y X (i + 1) k = frV (Y i) (X i) := fun k e => by
    subst e; unfold bU bV; rw [if_neg (by omega), if_neg (by omega)]; exact ⟨rfl, rfl⟩
  obtain ⟨U, hU⟩ : ∃ U, frU (Y i) (X i) = U := ⟨_, rfl⟩
  obtain ⟨V, hV⟩ : ∃ V, frV (Y i) (X i) = V := ⟨_, rfl⟩
  rw [hU] at fu clo chi ylo ta
  rw [hV] at fv clo chi ylo ta
  obtain ⟨H2, s2⟩ : ∃ H2, H.plus [.cells 0 2 [G U, G V]] = H2 := ⟨_, rfl⟩
  rw [s2] at ta
  have k2 : Kp (fun q => q = p + 3 ∨ q = p + 4) H1 H2 := by rw [← s2]; exact z.k.trans (Kp.plus _ _)
  have g14 : H2.get H.size = .cells 0 2 [G U, G V] := by rw [← s2]; exact plus_at0 _ _ _ _ rfl
  have g9 : H2.get (p + 3) = .cells 0 2 [G (bU Y X i (loI Y X i)), G (bV Y X i (loI Y X i))] := by rw [← s2]; exact plus_keep _ hlo9 (by simp)
  have g10 : H2.get (p + 4) = .cells 0 2 [G (bU Y X i (hiI Y X i)), G (bV Y X i (hiI Y X i))] := by rw [← s2]; exact plus_keep _ hhi10 (by simp)
  have hq : p + 4 < H.size := by have := z.k.size; omega
  have n2 : H2.N = p := by rw [← s2]; exact hNH
  have sz2 : H2.size = H.size + 1 := by rw [← s2, plus_size]; rfl
  generalize H.size = q at *
  clear s2
  have mm : ∀ {a b A B : Int}, 0 ≤ a → a ≤ 7200000000 → 0 ≤ b → b ≤ 100000000 → 0 ≤ a * b ∧ a * b ≤ 9000000000000000000 := fun h1 h2 h3 h4 => by
    have := mul_bd h1 h2 h3 h4; omega
  have tb := n20_lo J H2 (bx := bx) (vx := vx) (bo := bo) (p := p) (q := q) (i := i) (n := n) g14 g9 (by omega) (mm (A := 0) (B := 0) fu.1 (by omega) lb2.1 lb2.2) (mm (A := 0) (B := 0) lb1.1 lb1.2 (by omega) (by omega)) h8
  obtain ⟨H3, s3⟩ : ∃ H3, (if i = 0 ∨ U * bV Y X i (loI Y X i) < bU Y X i (loI Y X i) * V then H2.upd (p + 3) (.cells 0 2 [G U, G V]) else H2) = H3 := ⟨_, rfl⟩
  rw [s3] at tb
  have c3 : Kp (fun q => q = p + 3 ∨ q = p + 4) H1 H3 ∧ H3.get (p + 3) = .cells 0 2 [G (bU Y X (i + 1) (loI Y X (i + 1))), G (bV Y X (i + 1) (loI Y X (i + 1)))] ∧ H3.get (p + 4) = H2.get (p + 4) ∧ H3.get q = H2.get q ∧ H3.N = p ∧ H3.size = q + 1 := by
    by_cases c : i = 0 ∨ U * bV Y X i (loI Y X i) < bU Y X i (loI Y X i) * V
    · rw [if_pos c] at s3
      obtain ⟨y1, y2⟩ := ylo _ (clo.1 c)
      rw [y1, y2, ← s3]
      exact ⟨k2.trans (Kp.upd _ _ _ (by omega) (.inl rfl)), upd_same _ _ _ (by omega) (get_lt g9 (by simp)), upd_ne _ _ _ _ (by omega) (by omega), upd_ne _ _ _ _ (by omega) (by omega), n2, by rw [upd_size, sz2]⟩
    · rw [if_neg c] at s3
      obtain ⟨y1, y2⟩ := nlo (fun e => c (clo.2 e))
      rw [y1, y2, ← s3]
      exact ⟨k2, g9, rfl, rfl, n2, sz2⟩
  obtain ⟨k3, g93, g103, gq3, n3, sz3⟩ := c3
  rw [g10] at g103
  rw [g14] at gq3
  have tc := n20_hi J H3 (bx := bx) (vx := vx) (bo := bo) (p := p) (q := q) (i := i) (n := n) gq3 g103 (by omega) (mm (A := 0) (B := 0) fu.1 (by omega) hb2.1 hb2.2) (mm (A := 0) (B := 0) hb1.1 hb1.2 (by omega) (by omega)) h8
  obtain ⟨H4, s4⟩ : ∃ H4, (if i = 0 ∨ bU Y X i (hiI Y X i) * V < U * bV Y X i (hiI Y X i) then H3.upd (p + 4) (.cells 0 2 [G U, G V]) else H3) = H4 := ⟨_, rfl⟩
  rw [s4] at tc
  have z4 : Z20 H1 p Y X (i + 1) H4 := by
    by_cases c : i = 0 ∨ bU Y X i (hiI Y X i) * V < U * bV Y X i (hiI Y X i)
    · rw [if_pos c] at s4
      obtain ⟨y1, y2⟩ := ylo _ (chi.1 c)
      rw [← s4]
      exact ⟨k3.trans (Kp.upd _ _ _ (by omega) (.inr rfl)), by rw [upd_ne _ _ _ _ (by omega) (by omega)]; exact g93, by rw [y1, y2]; exact upd_same _ _ _ (by omega) (get_lt g103 (by simp))⟩
    · rw [if_neg c] at s4
      obtain ⟨y1, y2⟩ := nhi (fun e => c (chi.2 e))
      rw [← s4]
      exact ⟨k3, g93, by rw [y1, y2]; exact g103⟩
  have th : Tr tbl J ((.trim L20 (.seq c20_o6 (.cond (.s [true, false, false, true, false]) .skip (.exit 0))))) (fun s h => s.get [false] = .slice bx 0 n vx ∧ s.get [true, false] = .ptr p 0 2 ∧ s.get [false, true] = .ptr (p + 1) 0 2 ∧ s.get [false, true, false] = .ptr (p + 3) 0 2 ∧ s.get [true, true, false] = .ptr (p + 4) 0 2 ∧ s.get [false, true, true, false, false] = .slice bo 0 n n ∧ s.get [true, true, true, false, false] = G n ∧ s.get [false, false, false, true, false] = G i ∧ h = H) .normal (fun s h => s.get [false] = .slice bx 0 n vx ∧ s.get [true, false] = .ptr p 0 2 ∧ s.get [false, true] = .ptr (p + 1) 0 2 ∧ s.get [false, true, false] = .ptr (p + 3) 0 2 ∧ s.get [true, true, false] = .ptr (p + 4) 0 2 ∧ s.get [false, true, true, false, false] = .slice bo 0 n n ∧ s.get [true, true, true, false, false] = G n ∧ s.get [false, false, false, true, false] = G i ∧ h = H) := Tr.region fun s h hp => by
    obtain ⟨g0, g1, g2, g3, g4, g5, g6, g7, rfl⟩ := hp
    simp (disch := first | omega | exact getEq rfl | exact getO0 | exact Nat.le_of_ble_eq_true rfl) [c20_o6, came_some, goI, List.getElem?_cons_zero, List.getElem?_cons_succ, kn, keep, app_growP, app_noneP, plus_N, plus_at0, put_plus0, upd_N, upd_size, putAt, AV.cells, fillA, loadA, takeA, mk, Eff.isAll, Eff.isNone, Eff.commutes, Eff.spares, okPair, apart, eqAgg, fits, LK.fits, allEq, aveq, eqk, mmA, beqT, wrapI, idxI, tdivI, tmodI, decT, decF, ibT, ibF, inT, inF, evScope_c, if_pos, if_neg, g0, g1, g2, g3, g4, g5, g6, g7]
  have te : Tr tbl J (c20_o14) (fun s h => s.get [false] = .slice bx 0 n vx ∧ s.get [true, false] = .ptr p 0 2 ∧ s.get [false, true] = .ptr (p + 1) 0 2 ∧ s.get [false, true, false] = .ptr (p + 3) 0 2 ∧ s.get [true, true, false] = .ptr (p + 4) 0 2 ∧ s.get [false, true, true, false, false] = .slice bo 0 n n ∧ s.get [true, true, true, false, false] = G n ∧ s.get [false, false, false, true, false] = G i ∧ h = H4) .normal (fun s h => s.get [false] = .slice bx 0 n vx ∧ s.get [true, false] = .ptr p 0 2 ∧ s.get [false, true] = .ptr (p + 1) 0 2 ∧ s.get [false, true, false] = .ptr (p + 3) 0 2 ∧ s.get [true, true, false] = .ptr (p + 4) 0 2 ∧ s.get [false, true, true, false, false] = .slice bo 0 n n ∧ s.get [true, true, true, false, false] = G n ∧ s.get [false, false, false, true, false] = G ((i + 1 : Nat) : Int) ∧ h = H4) := Tr.region fun s h hp => by
    obtain ⟨g0, g1, g2, g3, g4, g5, g6, g7, rfl⟩ := hp
    simp (disch := first | omega | exact getEq rfl | exact getO0 | exact Nat.le_of_ble_eq_true rfl) [c20_o14, came_some, goI, List.getElem?_cons_zero, List.getElem?_cons_succ, kn, keep, app_growP, app_noneP, plus_N, plus_at0, put_plus0, upd_N, upd_size, putAt, AV.cells, fillA, loadA, takeA, mk, Eff.isAll, Eff.isNone, Eff.commutes, Eff.spares, okPair, apart, eqAgg, fits, LK.fits, allEq, aveq, eqk, mmA, beqT, wrapI, idxI, tdivI, tmodI, decT, decF, ibT, ibF, inT, inF, evScope_c, if_pos, if_neg, g0, g1, g2, g3, g4, g5, g6, g7]
  refine Tr.post ?_ (Tr.trim_assoc (Tr.trim_seq th (Tr.seq (Tr.block_out (Tr.app3 ta (Tr.seq tb tc)) (by simp)) te)))
  rintro s h ⟨q1, q2, q3, q4, q5, q6, q7, q8, rfl⟩
  exact ⟨q1, q2, q3, q4, q5, q6, q7, q8, z4⟩
end

/-! ### Bounds -/
section
variable {M : List (List Int)} {X : List Int} {x y : AV}
theorem c20_head (J : CallF) (h : Heap) {cs : List AV} {o : Bool} (k : ∀ own, J 54 [y] ⟨h.get, h.size, own⟩ = some (.tup [.agg cs, .bool o], [], false)) (hl : cs.length = 65) :
    Tr tbl J (.seq c20_o0 c20_o1) (fun s h' => s = T.set (T.set .leaf [] y) [false] x ∧ h' = frameOf h) .normal (fun s h' => s.get [false] = x ∧ s.get [true, false] = .ptr h.size 0 2 ∧ s.get [false, true] = .ptr (h.size + 1) 0 2 ∧ s.get [false, false, false] = .ptr (h.size + 2) 0 65 ∧ s.get [true, false, false] = .bool o ∧ h' = ⟨h.get, h.size, [.cells 0 2 [G 0, G 0], .cells 0 2 [G 0, G 0], .cells 0 65 cs]⟩) := by
  have lZ : (List.replicate 65 (AV.int .i64 0)).length = 65 := List.length_replicate
  generalize hZ : List.replicate 65 (AV.int .i64 0) = Z at *
  have ep := rp65 lZ cs hl
  have t0 : Tr tbl J ((.seq c20_o0 c20_o1)) (fun s h' => s = T.set (T.set .leaf [] y) [false] x ∧ h' = frameOf h) .normal (fun s h' => s.get [false] = x ∧ s.get [true, false] = .ptr h.size 0 2 ∧ s.get [false, true] = .ptr (h.size + 1) 0 2 ∧ s.get [false, false, false] = .ptr (h.size + 2) 0 65 ∧ s.get [true, false, false] = .bool o ∧ h' = ⟨h.get, h.size, [.cells 0 2 [G 0, G 0], .cells 0 2 [G 0, G 0], .cells 0 65 cs]⟩) := Tr.region fun s h hp => by
    obtain ⟨rfl, rfl⟩ := hp
    simp (disch := first | omega | exact getEq rfl | exact getO0 | exact Nat.le_of_ble_eq_true rfl) [-List.reduceReplicate, c20_o0, c20_o1, frameOf, came_some, goI, List.getElem?_cons_zero, List.getElem?_cons_succ, kn, keep, frameOf, size_mk, get_mk_lt, get_mk_ge, Eff.app, Heap.setOwn, putAt, AV.cells, fillA, loadA, takeA, mk, Eff.isAll, Eff.isNone, Eff.commutes, Eff.spares, okPair, apart, eqAgg, fits, LK.fits, allEq, aveq, eqk, mmA, beqT, wrapI, idxI, tdivI, tmodI, decT, decF, ibT, ibF, inT, inF, evScope_c, if_pos, if_neg, hZ, lZ, ep, hl, k]
  exact t0
theorem n20_end (J : CallF) (H : Heap) {p : Nat} {a b c d : Int} (hN : H.N = p) (f4 : H.get p = .cells 0 2 [G 0, G 0]) (f5 : H.get (p + 1) = .cells 0 2 [G 0, G 0]) (g3 : H.get (p + 3) = .cells 0 2 [G a, G b]) (m4 : H.get (p + 4) = .cells 0 2 [G c, G d]) :
    Tr tbl J (.seq c20_o15 .ret) (fun s h => s.get [true, false] = .ptr p 0 2 ∧ s.get [false, true] = .ptr (p + 1) 0 2 ∧ s.get [false, true, false] = .ptr (p + 3) 0 2 ∧ s.get [true, true, false] = .ptr (p + 4) 0 2 ∧ h = H) .ret (fun s h => s.get [true, false] = .ptr p 0 2 ∧ s.get [false, true] = .ptr (p + 1) 0 2 ∧ s.get [true, true] = G 0 ∧ h.get p = .cells 0 2 [G a, G b] ∧ h.get (p + 1) = .cells 0 2 [G c, G d]) := by
  have p4 := put_gen H p 2 0 0 [G 0, G 0] [G a, G b] (by omega) f4 (by simp)
  have m5 : (H.upd p (.cells 0 2 [G a, G b])).get (p + 1) = .cells 0 2 [G 0, G 0] := by rw [upd_ne _ _ _ _ (by omega) (by omega)]; exact f5
  have p5 := put_gen (H.upd p (.cells 0 2 [G a, G b])) (p + 1) 2 0 0 [G 0, G 0] [G c, G d] (by rw [upd_N]; omega) m5 (by simp)
  have e4 : ((H.upd p (.cells 0 2 [G a, G b])).upd (p + 1) (.cells 0 2 [G c, G d])).get p = .cells 0 2 [G a, G b] := by
    rw [upd_ne _ _ _ _ (by rw [upd_N]; omega) (by omega)]; exact upd_same _ _ _ (by omega) (get_lt f4 (by simp))
  have e5 : ((H.upd p (.cells 0 2 [G a, G b])).upd (p + 1) (.cells 0 2 [G c, G d])).get (p + 1) = .cells 0 2 [G c, G d] := upd_same _ _ _ (by rw [upd_N]; omega) (by rw [upd_size]; exact get_lt f5 (by simp))
  have m3 := g3
  clear g3
  have t : Tr tbl J ((.seq c20_o15 .ret)) (fun s h => s.get [true, false] = .ptr p 0 2 ∧ s.get [false, true] = .ptr (p + 1) 0 2 ∧ s.get [false, true, false] = .ptr (p + 3) 0 2 ∧ s.get [true, true, false] = .ptr (p + 4) 0 2 ∧ h = H) .ret (fun s h => s.get [true, false] = .ptr p 0 2 ∧ s.get [false, true] = .ptr (p + 1) 0 2 ∧ s.get [true, true] = G 0 ∧ h = (H.upd p (.cells 0 2 [G a, G b])).upd (p + 1) (.cells 0 2 [G c, G d])) := Tr.region fun s h hp => by
    obtain ⟨g0, g1, g2, g3, rfl⟩ := hp
    simp (disch := first | omega | exact getEq rfl | exact getO0 | exact Nat.le_of_ble_eq_true rfl) [-evDraw_c, c20_o15, came_some, goI, List.getElem?_cons_zero, List.getElem?_cons_succ, kn, keep, app_growP, app_noneP, plus_N, plus_at0, put_plus0, upd_N, upd_size, putAt, AV.cells, fillA, loadA, takeA, mk, Eff.isAll, Eff.isNone, Eff.commutes, Eff.spares, okPair, apart, eqAgg, fits, LK.fits, allEq, aveq, eqk, mmA, beqT, wrapI, idxI, tdivI, tmodI, decT, decF, ibT, ibF, inT, inF, evScope_c, if_pos, if_neg, g0, g1, g2, g3, evDraw_0, m3, m4, p4, p5, nnT]
  exact Tr.post (fun s h q => ⟨q.1, q.2.1, q.2.2.1, by rw [q.2.2.2]; exact e4, by rw [q.2.2.2]; exact e5⟩) t
theorem c20_good (J : CallF) (k54 : K54 J) (k55 : K55 J) (k58 : K58 J) (k60 : K60 J) (hJ : ∀ a h, J 20 a h = none) (h : Heap) (hy : MR h y M) (hx : LR h x X) (hv : vOk 1 M X) : CallsTo tbl J 20 [y, x] h (.tup [(bdV M X).1, (bdV M X).2, G 0], [], false) := by
  obtain ⟨hm, hl, hin⟩ := id hv
  have hv0 := vOk_10 hv
  have h8 := isMat_n hm
  have yx := vOk_yx hv
  have k : ∀ own, J 54 [y] ⟨h.get, h.size, own⟩ = some (.tup [.agg (matC M), .bool true], [], false) := fun own => by
    obtain ⟨cs, k, hl, hc⟩ := k54 ⟨h.get, h.size, own⟩ y M (hy.lo own)
    rw [k, hc hm, hm]
  rcases hx.cases with ⟨_, q⟩ | ⟨_, q⟩ | ⟨bx, vx, rfl, gx⟩
  · rw [q] at hl; simp at hl; omega
  · rw [q] at hl; simp at hl; omega
  have lx : LR h (.slice bx 0 M.length vx) X := by rw [← hl]; exact hx
  rw [hl]
  have hbx := get_lt gx (by simp)
  refine Tr.fnv (cf := c20) (e := .ret) (s := T.set (T.set .leaf [] y) [false] (.slice bx 0 M.length vx)) (by decide) rfl (hJ _ _) rfl rfl (by simp [bdV, fr, AV.flat, AV.flats]) (by simp) ?_
  have t0 := c20_head (x := .slice bx 0 M.length vx) J h k (matC_len M)
  have kb := k55 59 1 100000000 _ _ X rfl (LR.lo lx [.cells 0 2 [G 0, G 0], .cells 0 2 [G 0, G 0], .cells 0 65 (matC M)]) (by omega)
  rw [hin] at kb
  have kc := k58 _ _ M X (LR.lo lx [.cells 0 2 [G 0, G 0], .cells 0 2 [G 0, G 0], .cells 0 65 (matC M), .cells 0 2 [G 0, G 0], .cells 0 2 [G 0, G 0]]) hv0
  rw [show Heap.size ⟨h.get, h.size, [.cells 0 2 [G 0, G 0], .cells 0 2 [G 0, G 0], .cells 0 65 (matC M), .cells 0 2 [G 0, G 0], .cells 0 2 [G 0, G 0]]⟩ = h.size + 5 from rfl] at kc
  have hC : (matC M)[0]? = some (G M.length) := rfl
  have hC' : ∀ h, (matC M)[0]'h = G M.length := fun h => rfl
  have lC := matC_len M
  have et : (matC M).take 65 = matC M := List.take_of_length_le (by omega)
  have ex : ∀ i, i < M.length → (gs X)[i]? = some (G (X.getD i 0)) := fun i hi => by rw [lf_of X, gl_at _ (by omega), lf_getD _ (by omega)]
  have eo : ∀ i, i < M.length → (gs (nxtL M X))[i]? = some (G (nxv M X i M.length)) := fun i hi => gl_at (fun i => nxv M X i M.length) hi
  have lon := loI_lt (fun i => nxv M X i M.length) (X.getD · 0) M.length (by omega)
  have hin' := hiI_lt (fun i => nxv M X i M.length) (X.getD · 0) M.length (by omega)
  unfold bdV
  simp only
  obtain ⟨Y, hY⟩ : ∃ Y, (fun i => nxv M X i M.length) = Y := ⟨_, rfl⟩
  obtain ⟨Z, hZ⟩ : ∃ Z, (fun i => X.getD i 0) = Z := ⟨_, rfl⟩
  have hZ' : ∀ i, X.getD i 0 = Z i := fun i => by rw [← hZ]
  have hY' : ∀ i, nxv M X i M.length = Y i := fun i => by rw [← hY]
  rw [hY, hZ] at yx lon hin'
  simp only [hZ'] at ex
  simp only [hY'] at eo
  rw [hY, hZ, hY', hY', hZ', hZ']
  clear hY hZ hZ' hY'
  generalize matC M = C at *
  generalize gs (nxtL M X) = O at *
  generalize M.length = n at *
  have t1 : Tr tbl J (.seq c20_o2 (.cond (.s [true, false, false, false, false]) (.seq c20_o3 .ret) .skip)) (fun s h' => s.get [false] = .slice bx 0 n vx ∧ s.get [true, false] = .ptr h.size 0 2 ∧ s.get [false, true] = .ptr (h.size + 1) 0 2 ∧ s.get [false, false, false] = .ptr (h.size + 2) 0 65 ∧ s.get [true, false, false] = .bool true ∧ h' = ⟨h.get, h.size, [.cells 0 2 [G 0, G 0], .cells 0 2 [G 0, G 0], .cells 0 65 C]⟩) .normal (fun s h' => s.get [false] = .slice bx 0 n vx ∧ s.get [true, false] = .ptr h.size 0 2 ∧ s.get [false, true] = .ptr (h.size + 1) 0 2 ∧ s.get [false, false, false] = .ptr (h.size + 2) 0 65 ∧ h' = ⟨h.get, h.size, [.cells 0 2 [G 0, G 0], .cells 0 2 [G 0, G 0], .cells 0 65 C]⟩) := by
    have t : Tr tbl J ((.seq c20_o2 (.cond (.s [true, false, false, false, false]) (.seq c20_o3 .ret) .skip))) (fun s h' => s.get [false] = .slice bx 0 n vx ∧ s.get [true, false] = .ptr h.size 0 2 ∧ s.get [false, true] = .ptr (h.size + 1) 0 2 ∧ s.get [false, false, false] = .ptr (h.size + 2) 0 65 ∧ s.get [true, false, false] = .bool true ∧ h' = ⟨h.get, h.size, [.cells 0 2 [G 0, G 0], .cells 0 2 [G 0, G 0], .cells 0 65 C]⟩) .normal (fun s h' => s.get [false] = .slice bx 0 n vx ∧ s.get [true, false] = .ptr h.size 0 2 ∧ s.get [false, true] = .ptr (h.size + 1) 0 2 ∧ s.get [false, false, false] = .ptr (h.size + 2) 0 65 ∧ h' = ⟨h.get, h.size, [.cells 0 2 [G 0, G 0], .cells 0 2 [G 0, G 0], .cells 0 65 C]⟩) := Tr.region fun s h hp => by
      obtain ⟨g0, g1, g2, g3, g4, rfl⟩ := hp
      simp (disch := first | omega | exact getEq rfl | exact getO0 | exact Nat.le_of_ble_eq_true rfl) [c20_o2, came_some, goI, List.getElem?_cons_zero, List.getElem?_cons_succ, kn, keep, frameOf, size_mk, get_mk_lt, get_mk_ge, Eff.app, Heap.setOwn, putAt, AV.cells, fillA, loadA, takeA, mk, Eff.isAll, Eff.isNone, Eff.commutes, Eff.spares, okPair, apart, eqAgg, fits, LK.fits, allEq, aveq, eqk, mmA, beqT, wrapI, idxI, tdivI, tmodI, decT, decF, ibT, ibF, inT, inF, evScope_c, if_pos, if_neg, g0, g1, g2, g3, g4, hC, hC', kb, lC, ibT, inF]
    exact t
  have t2 : Tr tbl J (c20_o4) (fun s h' => s.get [false] = .slice bx 0 n vx ∧ s.get [true, false] = .ptr h.size 0 2 ∧ s.get [false, true] = .ptr (h.size + 1) 0 2 ∧ s.get [false, false, false] = .ptr (h.size + 2) 0 65 ∧ h' = ⟨h.get, h.size, [.cells 0 2 [G 0, G 0], .cells 0 2 [G 0, G 0], .cells 0 65 C]⟩) .normal (fun s h' => s.get [false] = .slice bx 0 n vx ∧ s.get [true, false] = .ptr h.size 0 2 ∧ s.get [false, true] = .ptr (h.size + 1) 0 2 ∧ s.get [false, false, false] = .ptr (h.size + 2) 0 65 ∧ s.get [false, true, false] = .ptr (h.size + 3) 0 2 ∧ s.get [true, true, false] = .ptr (h.size + 4) 0 2 ∧ h' = ⟨h.get, h.size, [.cells 0 2 [G 0, G 0], .cells 0 2 [G 0, G 0], .cells 0 65 C, .cells 0 2 [G 0, G 0], .cells 0 2 [G 0, G 0]]⟩) := Tr.region fun s h hp => by
    obtain ⟨g0, g1, g2, g3, rfl⟩ := hp
    simp (disch := first | omega | exact getEq rfl | exact getO0 | exact Nat.le_of_ble_eq_true rfl) [c20_o4, came_some, goI, List.getElem?_cons_zero, List.getElem?_cons_succ, kn, keep, frameOf, size_mk, get_mk_lt, get_mk_ge, Eff.app, Heap.setOwn, putAt, AV.cells, fillA, loadA, takeA, mk, Eff.isAll, Eff.isNone, Eff.commutes, Eff.spares, okPair, apart, eqAgg, fits, LK.fits, allEq, aveq, eqk, mmA, beqT, wrapI, idxI, tdivI, tmodI, decT, decF, ibT, ibF, inT, inF, evScope_c, if_pos, if_neg, g0, g1, g2, g3]
  have t3 : Tr tbl J (c20_o5) (fun s h' => s.get [false] = .slice bx 0 n vx ∧ s.get [true, false] = .ptr h.size 0 2 ∧ s.get [false, true] = .ptr (h.size + 1) 0 2 ∧ s.get [false, false, false] = .ptr (h.size + 2) 0 65 ∧ s.get [false, true, false] = .ptr (h.size + 3) 0 2 ∧ s.get [true, true, false] = .ptr (h.size + 4) 0 2 ∧ h' = ⟨h.get, h.size, [.cells 0 2 [G 0, G 0], .cells 0 2 [G 0, G 0], .cells 0 65 C, .cells 0 2 [G 0, G 0], .cells 0 2 [G 0, G 0]]⟩) .normal (fun s h' => s.get [false] = .slice bx 0 n vx ∧ s.get [true, false] = .ptr h.size 0 2 ∧ s.get [false, true] = .ptr (h.size + 1) 0 2 ∧ s.get [false, true, false] = .ptr (h.size + 3) 0 2 ∧ s.get [true, true, false] = .ptr (h.size + 4) 0 2 ∧ s.get [false, true, true, false, false] = .slice (h.size + 6) 0 n n ∧ s.get [true, true, true, false, false] = G n ∧ s.get [false, false, false, true, false] = G ((0 : Nat) : Int) ∧ h' = ⟨h.get, h.size, [.cells 0 2 [G 0, G 0], .cells 0 2 [G 0, G 0], .cells 0 65 C, .cells 0 2 [G 0, G 0], .cells 0 2 [G 0, G 0], .cells 0 65 C, .cells 1 n O]⟩) := Tr.region fun s h hp => by
    obtain ⟨g0, g1, g2, g3, g4, g5, rfl⟩ := hp
    simp (disch := first | omega | exact getEq rfl | exact getO0 | exact Nat.le_of_ble_eq_true rfl) [c20_o5, came_some, goI, List.getElem?_cons_zero, List.getElem?_cons_succ, kn, keep, frameOf, size_mk, get_mk_lt, get_mk_ge, Eff.app, Heap.setOwn, putAt, AV.cells, fillA, loadA, takeA, mk, Eff.isAll, Eff.isNone, Eff.commutes, Eff.spares, okPair, apart, eqAgg, fits, LK.fits, allEq, aveq, eqk, mmA, beqT, wrapI, idxI, tdivI, tmodI, decT, decF, ibT, ibF, inT, inF, evScope_c, if_pos, if_neg, g0, g1, g2, g3, g4, g5, lC, et, kc]
  obtain ⟨H1, s1⟩ : ∃ H, (⟨h.get, h.size, [.cells 0 2 [G 0, G 0], .cells 0 2 [G 0, G 0], .cells 0 65 C, .cells 0 2 [G 0, G 0], .cells 0 2 [G 0, G 0], .cells 0 65 C, .cells 1 n O]⟩ : Heap) = H := ⟨_, rfl⟩
  rw [s1] at t3
  have at' : ∀ (j : Nat) (X : AObj), ([.cells 0 2 [G 0, G 0], .cells 0 2 [G 0, G 0], .cells 0 65 C, .cells 0 2 [G 0, G 0], .cells 0 2 [G 0, G 0], .cells 0 65 C, .cells 1 n O] : List AObj).getD j .hole = X → H1.get (h.size + j) = X := fun j X e => by
    rw [← s1, get_mk_ge _ _ _ _ (by omega), Nat.add_sub_cancel_left]; exact e
  have m0 := at' 0 _ rfl
  have m1 := at' 1 _ rfl
  have m3 := at' 3 _ rfl
  have m4 := at' 4 _ rfl
  have m6 := at' 6 _ rfl
  have mx : H1.get bx = .cells 1 vx (gs X) := by rw [← s1, get_mk_lt _ _ _ _ hbx]; exact gx
  have n1 : H1.N = h.size := by rw [← s1]
  have z1 : H1.size = h.size + 7 := by rw [← s1]; rfl
  clear s1 at'
  have z0 : Z20 H1 h.size Y Z 0 H1 := ⟨Kp.refl _, m3, m4⟩
  have tl := Tr.rounds (tbl := tbl) (I := J) (live := L20) (c := c20_b0) (e := .exit 0) (M := n)
    (P := fun i s h' => s.get [false] = .slice bx 0 n vx ∧ s.get [true, false] = .ptr h.size 0 2 ∧ s.get [false, true] = .ptr (h.size + 1) 0 2 ∧ s.get [false, true, false] = .ptr (h.size + 3) 0 2 ∧ s.get [true, true, false] = .ptr (h.size + 4) 0 2 ∧ s.get [false, true, true, false, false] = .slice (h.size + 6) 0 n n ∧ s.get [true, true, true, false, false] = G n ∧ s.get [false, false, false, true, false] = G i ∧ Z20 H1 h.size Y Z i h')
    (Q := fun s h' => s.get [true, false] = .ptr h.size 0 2 ∧ s.get [false, true] = .ptr (h.size + 1) 0 2 ∧ s.get [false, true, false] = .ptr (h.size + 3) 0 2 ∧ s.get [true, true, false] = .ptr (h.size + 4) 0 2 ∧ Z20 H1 h.size Y Z n h')
    (fun i hi => Tr.fix (F := fun H => Z20 H1 h.size Y Z i H) (P' := fun H s h' => s.get [false] = .slice bx 0 n vx ∧ s.get [true, false] = .ptr h.size 0 2 ∧ s.get [false, true] = .ptr (h.size + 1) 0 2 ∧ s.get [false, true, false] = .ptr (h.size + 3) 0 2 ∧ s.get [true, true, false] = .ptr (h.size + 4) 0 2 ∧ s.get [false, true, true, false, false] = .slice (h.size + 6) 0 n n ∧ s.get [true, true, true, false, false] = G n ∧ s.get [false, false, false, true, false] = G i ∧ h' = H)
      (fun H z => n20_step J k60 mx m6 hbx (by omega) n1 (by omega) ex eo yx hi h8.2 z) (fun s h' q => ⟨q.2.2.2.2.2.2.2.2, q.1, q.2.1, q.2.2.1, q.2.2.2.1, q.2.2.2.2.1, q.2.2.2.2.2.1, q.2.2.2.2.2.2.1, q.2.2.2.2.2.2.2.1, rfl⟩))
    (Tr.fix (F := fun H => Z20 H1 h.size Y Z n H) (P' := fun H s h' => s.get [false] = .slice bx 0 n vx ∧ s.get [true, false] = .ptr h.size 0 2 ∧ s.get [false, true] = .ptr (h.size + 1) 0 2 ∧ s.get [false, true, false] = .ptr (h.size + 3) 0 2 ∧ s.get [true, true, false] = .ptr (h.size + 4) 0 2 ∧ s.get [false, true, true, false, false] = .slice (h.size + 6) 0 n n ∧ s.get [true, true, true, false, false] = G n ∧ s.get [false, false, false, true, false] = G n ∧ h' = H)
      (fun H z => by
        generalize h.size = p at *
        have t : Tr tbl J ((.trim L20 c20_b0)) (fun s h' => s.get [false] = .slice bx 0 n vx ∧ s.get [true, false] = .ptr p 0 2 ∧ s.get [false, true] = .ptr (p + 1) 0 2 ∧ s.get [false, true, false] = .ptr (p + 3) 0 2 ∧ s.get [true, true, false] = .ptr (p + 4) 0 2 ∧ s.get [false, true, true, false, false] = .slice (p + 6) 0 n n ∧ s.get [true, true, true, false, false] = G n ∧ s.get [false, false, false, true, false] = G n ∧ h' = H) (.exit 0) (fun s h' => s.get [true, false] = .ptr p 0 2 ∧ s.get [false, true] = .ptr (p + 1) 0 2 ∧ s.get [false, true, false] = .ptr (p + 3) 0 2 ∧ s.get [true, true, false] = .ptr (p + 4) 0 2 ∧ h' = H) := Tr.region fun s h hp => by
          obtain ⟨g0, g1, g2, g3, g4, g5, g6, g7, rfl⟩ := hp
          simp (disch := first | omega | exact getEq rfl | exact getO0 | exact Nat.le_of_ble_eq_true rfl) [c20_b0, c20_o6, came_some, goI, List.getElem?_cons_zero, List.getElem?_cons_succ, kn, keep, app_growP, app_noneP, plus_N, plus_at0, put_plus0, upd_N, upd_size, putAt, AV.cells, fillA, loadA, takeA, mk, Eff.isAll, Eff.isNone, Eff.commutes, Eff.spares, okPair, apart, eqAgg, fits, LK.fits, allEq, aveq, eqk, mmA, beqT, wrapI, idxI, tdivI, tmodI, decT, decF, ibT, ibF, inT, inF, evScope_c, if_pos, if_neg, g0, g1, g2, g3, g4, g5, g6, g7]
        exact Tr.post (fun s h' q => ⟨q.1, q.2.1, q.2.2.1, q.2.2.2.1, by rw [q.2.2.2.2]; exact z⟩) t) (fun s h' q => ⟨q.2.2.2.2.2.2.2.2, q.1, q.2.1, q.2.2.1, q.2.2.2.1, q.2.2.2.2.1, q.2.2.2.2.2.1, q.2.2.2.2.2.2.1, q.2.2.2.2.2.2.2.1, rfl⟩))
    (by simp) 0 (by omega)
  have te := Tr.fix (tbl := tbl) (I := J) (c := .seq c20_o15 .ret) (e := .ret) (F := fun H => Z20 H1 h.size Y Z n H) (P' := fun H s h' => s.get [true, false] = .ptr h.size 0 2 ∧ s.get [false, true] = .ptr (h.size + 1) 0 2 ∧ s.get [false, true, false] = .ptr (h.size + 3) 0 2 ∧ s.get [true, true, false] = .ptr (h.size + 4) 0 2 ∧ h' = H)
    (fun H z => n20_end J H (by rw [z.k.N, n1]) (z.k.at m0 (by simp) (by rintro (e | e) <;> omega)) (z.k.at m1 (by simp) (by rintro (e | e) <;> omega)) z.lo z.hi) (P := fun s h' => s.get [true, false] = .ptr h.size 0 2 ∧ s.get [false, true] = .ptr (h.size + 1) 0 2 ∧ s.get [false, true, false] = .ptr (h.size + 3) 0 2 ∧ s.get [true, true, false] = .ptr (h.size + 4) 0 2 ∧ Z20 H1 h.size Y Z n h') (fun s h' q => ⟨q.2.2.2.2, q.1, q.2.1, q.2.2.1, q.2.2.2.1, rfl⟩)
  refine Tr.post ?_ (Tr.app2 t0 (Tr.seq t1 (Tr.seq t2 (Tr.seq (Tr.seq t3 (Tr.block (Tr.pre (fun s h' q => ?_) tl))) te))))
  · rintro s h' ⟨q1, q2, q3, q4, q5⟩
    have hn : ¬ n = 0 := by omega
    unfold bU bV at q4 q5
    rw [if_neg hn, if_neg hn] at q4 q5
    rw [fr_uv, fr_uv]
    simp [c20, evRess, evRes, q1, q2, q3, q4, q5, loadA, takeA, one]
  · obtain ⟨q1, q2, q3, q4, q5, q6, q7, q8, rfl⟩ := q
    exact ⟨q1, q2, q3, q4, q5, q6, q7, q8, z0⟩
theorem c20_bad (J : CallF) (k54 : K54 J) (k55 : K55 J) (hJ : ∀ a h, J 20 a h = none) (h : Heap) (hy : MR h y M) (hx : LR h x X) (hb : X.length < 9223372036854775808) (hv : ¬ vOk 1 M X) : CallsTo tbl J 20 [y, x] h (.tup [.agg [G 0, G 0], .agg [G 0, G 0], G 2], [], false) := by
  refine Tr.fnv (cf := c20) (e := .ret) (s := T.set (T.set .leaf [] y) [false] x) (by decide) rfl (hJ _ _) rfl rfl rfl (by simp) ?_
  obtain ⟨cs, hk, hl, hc⟩ : ∃ cs, J 54 [y] ⟨h.get, h.size, [.cells 0 2 [G 0, G 0], .cells 0 2 [G 0, G 0]]⟩ = some (.tup [.agg cs, .bool (isMat M)], [], false) ∧ cs.length = 65 ∧ (isMat M = true → cs = matC M) := k54 _ y M (hy.lo _)
  have lZ : (List.replicate 65 (AV.int .i64 0)).length = 65 := List.length_replicate
  have t0 : Tr tbl J (.seq c20_o0 c20_o1) (fun s h' => s = T.set (T.set .leaf [] y) [false] x ∧ h' = frameOf h) .normal (fun s h' => s.get [false] = x ∧ s.get [true, false] = .ptr h.size 0 2 ∧ s.get [false, true] = .ptr (h.size + 1) 0 2 ∧ s.get [false, false, false] = .ptr (h.size + 2) 0 65 ∧ s.get [true, false, false] = .bool (isMat M) ∧ h' = ⟨h.get, h.size, [.cells 0 2 [G 0, G 0], .cells 0 2 [G 0, G 0], .cells 0 65 cs]⟩) := by
    generalize hZ : List.replicate 65 (AV.int .i64 0) = Z at *
    have ep := rp65 lZ cs hl
    have t0 : Tr tbl J ((.seq c20_o0 c20_o1)) (fun s h' => s = T.set (T.set .leaf [] y) [false] x ∧ h' = frameOf h) .normal (fun s h' => s.get [false] = x ∧ s.get [true, false] = .ptr h.size 0 2 ∧ s.get [false, true] = .ptr (h.size + 1) 0 2 ∧ s.get [false, false, false] = .ptr (h.size + 2) 0 65 ∧ s.get [true, false, false] = .bool (isMat M) ∧ h' = ⟨h.get, h.size, [.cells 0 2 [G 0, G 0], .cells 0 2 [G 0, G 0], .cells 0 65 cs]⟩) := Tr.region fun s h hp => by
      obtain ⟨rfl, rfl⟩ := hp
      simp (disch := first | omega | exact getEq rfl | exact getO0 | exact Nat.le_of_ble_eq_true rfl) [-List.reduceReplicate, c20_o0, c20_o1, frameOf, came_some, goI, List.getElem?_cons_zero, List.getElem?_cons_succ, kn, keep, frameOf, size_mk, get_mk_lt, get_mk_ge, Eff.app, Heap.setOwn, putAt, AV.cells, fillA, loadA, takeA, mk, Eff.isAll, Eff.isNone, Eff.commutes, Eff.spares, okPair, apart, eqAgg, fits, LK.fits, allEq, aveq, eqk, mmA, beqT, wrapI, idxI, tdivI, tmodI, decT, decF, ibT, ibF, inT, inF, evScope_c, if_pos, if_neg, hZ, lZ, ep, hl, hk]
    exact t0
  have hs := LR.sl hx
  refine Tr.post (Q := fun s h' => s.get [true, false] = .ptr h.size 0 2 ∧ s.get [false, true] = .ptr (h.size + 1) 0 2 ∧ s.get [true, true] = G 2 ∧ h' = ⟨h.get, h.size, [.cells 0 2 [G 0, G 0], .cells 0 2 [G 0, G 0], .cells 0 65 cs]⟩) (fun s h' q => by
    obtain ⟨q1, q2, q3, rfl⟩ := q
    simp [c20, evRess, evRes, q1, q2, q3, loadA, takeA, get_mk_ge, one]) ?_
  refine Tr.app2 t0 (Tr.seq_out ?_ (by simp))
  by_cases hm : isMat M = true
  · obtain rfl := hc hm
    rw [hm]
    have hC : (matC M)[0]? = some (G M.length) := rfl
    have hC' : ∀ h, (matC M)[0]'h = G M.length := fun h => rfl
    have hn := isMat_n hm
    by_cases hlen : X.length = M.length
    · have kb := k55 59 1 100000000 _ _ X rfl (LR.lo hx [.cells 0 2 [G 0, G 0], .cells 0 2 [G 0, G 0], .cells 0 65 (matC M)]) hb
      have hf : allIn 1 100000000 X = false := by
        cases e : allIn 1 100000000 X
        · rfl
        · exact absurd ⟨hm, hlen, e⟩ hv
      rw [hf] at kb
      rw [hlen] at hs
      generalize matC M = C at *
      generalize M.length = n at *
      have t1 : Tr tbl J ((.seq c20_o2 (.cond (.s [true, false, false, false, false]) (.seq c20_o3 .ret) .skip))) (fun s h' => s.get [false] = x ∧ s.get [true, false] = .ptr h.size 0 2 ∧ s.get [false, true] = .ptr (h.size + 1) 0 2 ∧ s.get [false, false, false] = .ptr (h.size + 2) 0 65 ∧ s.get [true, false, false] = .bool true ∧ h' = ⟨h.get, h.size, [.cells 0 2 [G 0, G 0], .cells 0 2 [G 0, G 0], .cells 0 65 C]⟩) .ret (fun s h' => s.get [true, false] = .ptr h.size 0 2 ∧ s.get [false, true] = .ptr (h.size + 1) 0 2 ∧ s.get [true, true] = G 2 ∧ h' = ⟨h.get, h.size, [.cells 0 2 [G 0, G 0], .cells 0 2 [G 0, G 0], .cells 0 65 C]⟩) := Tr.region fun s h hp => by
        obtain ⟨g0, g1, g2, g3, g4, rfl⟩ := hp
        rcases hs with ⟨rfl, h0⟩ | ⟨rfl, h0⟩ | ⟨b, v, rfl⟩ <;> first | omega | simp (disch := first | omega | exact getEq rfl | exact getO0 | exact Nat.le_of_ble_eq_true rfl) [c20_o2, c20_o3, came_some, goI, List.getElem?_cons_zero, List.getElem?_cons_succ, kn, keep, frameOf, size_mk, get_mk_lt, get_mk_ge, Eff.app, Heap.setOwn, putAt, AV.cells, fillA, loadA, takeA, mk, Eff.isAll, Eff.isNone, Eff.commutes, Eff.spares, okPair, apart, eqAgg, fits, LK.fits, allEq, aveq, eqk, mmA, beqT, wrapI, idxI, tdivI, tmodI, decT, decF, ibT, ibF, inT, inF, evScope_c, if_pos, if_neg, g0, g1, g2, g3, g4, hC, hC', kb, hl, ibT, inF]
      exact t1
    · generalize matC M = C at *
      generalize M.length = n at *
      generalize X.length = m at *
      have t1 : Tr tbl J ((.seq c20_o2 (.cond (.s [true, false, false, false, false]) (.seq c20_o3 .ret) .skip))) (fun s h' => s.get [false] = x ∧ s.get [true, false] = .ptr h.size 0 2 ∧ s.get [false, true] = .ptr (h.size + 1) 0 2 ∧ s.get [false, false, false] = .ptr (h.size + 2) 0 65 ∧ s.get [true, false, false] = .bool true ∧ h' = ⟨h.get, h.size, [.cells 0 2 [G 0, G 0], .cells 0 2 [G 0, G 0], .cells 0 65 C]⟩) .ret (fun s h' => s.get [true, false] = .ptr h.size 0 2 ∧ s.get [false, true] = .ptr (h.size + 1) 0 2 ∧ s.get [true, true] = G 2 ∧ h' = ⟨h.get, h.size, [.cells 0 2 [G 0, G 0], .cells 0 2 [G 0, G 0], .cells 0 65 C]⟩) := Tr.region fun s h hp => by
        obtain ⟨g0, g1, g2, g3, g4, rfl⟩ := hp
        rcases hs with ⟨rfl, h0⟩ | ⟨rfl, h0⟩ | ⟨b, v, rfl⟩ <;> (try subst h0) <;> simp (disch := first | omega | exact getEq rfl | exact getO0 | exact Nat.le_of_ble_eq_true rfl) [c20_o2, c20_o3, came_some, goI, List.getElem?_cons_zero, List.getElem?_cons_succ, kn, keep, frameOf, size_mk, get_mk_lt, get_mk_ge, Eff.app, Heap.setOwn, putAt, AV.cells, fillA, loadA, takeA, mk, Eff.isAll, Eff.isNone, Eff.commutes, Eff.spares, okPair, apart, eqAgg, fits, LK.fits, allEq, aveq, eqk, mmA, beqT, wrapI, idxI, tdivI, tmodI, decT, decF, ibT, ibF, inT, inF, evScope_c, if_pos, if_neg, g0, g1, g2, g3, g4, hC, hC', hl, inT, hlen]
      exact t1
  · have hm' : isMat M = false := by simpa using hm
    rw [hm']
    have t1 : Tr tbl J ((.seq c20_o2 (.cond (.s [true, false, false, false, false]) (.seq c20_o3 .ret) .skip))) (fun s h' => s.get [false] = x ∧ s.get [true, false] = .ptr h.size 0 2 ∧ s.get [false, true] = .ptr (h.size + 1) 0 2 ∧ s.get [false, false, false] = .ptr (h.size + 2) 0 65 ∧ s.get [true, false, false] = .bool false ∧ h' = ⟨h.get, h.size, [.cells 0 2 [G 0, G 0], .cells 0 2 [G 0, G 0], .cells 0 65 cs]⟩) .ret (fun s h' => s.get [true, false] = .ptr h.size 0 2 ∧ s.get [false, true] = .ptr (h.size + 1) 0 2 ∧ s.get [true, true] = G 2 ∧ h' = ⟨h.get, h.size, [.cells 0 2 [G 0, G 0], .cells 0 2 [G 0, G 0], .cells 0 65 cs]⟩) := Tr.region fun s h hp => by
      obtain ⟨g0, g1, g2, g3, g4, rfl⟩ := hp
      simp (disch := first | omega | exact getEq rfl | exact getO0 | exact Nat.le_of_ble_eq_true rfl) [c20_o2, c20_o3, came_some, goI, List.getElem?_cons_zero, List.getElem?_cons_succ, kn, keep, frameOf, size_mk, get_mk_lt, get_mk_ge, Eff.app, Heap.setOwn, putAt, AV.cells, fillA, loadA, takeA, mk, Eff.isAll, Eff.isNone, Eff.commutes, Eff.spares, okPair, apart, eqAgg, fits, LK.fits, allEq, aveq, eqk, mmA, beqT, wrapI, idxI, tdivI, tmodI, decT, decF, ibT, ibF, inT, inF, evScope_c, if_pos, if_neg, g0, g1, g2, g3, g4]
    exact t1
end

end Go.Proofs.Ytjeemgaoonapgaa.Ev
