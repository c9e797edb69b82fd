/-
  SampleOwn answers true at any three ints and any two lists, as the evaluator runs it. No condition.
-/
import Derived.Test.YtlkgpcfhpeilhaaSTab3
import Derived.Test.YtlkgpcfhpeilhaaSInts0
set_option linter.unusedVariables false
set_option linter.unusedSimpArgs false
namespace Go.Proofs.Ytlkgpcfhpeilhaa.Ev
open Go Go.AEv

attribute [local simp] evFunc initS evOps_c evTrim_c evSkip_c evExit_c evRet_c evSeq_c evCond_c evBlock_c evDraw_c runOps_n runOps_c exec_n exec_g pure1_c act AOpd.ev T.get T.set T.put evBin evUn forceT_eq forceV_eq forceL_eq evRess evRes one keep runFP_n runFP_c app_none AV.flats AV.flat

noncomputable def O13 : CallF := addI D12 45 spec45
theorem o13 : Sound Go.Proofs.Try.prog O13 := Sound.add follows ok u12 (by decide) (fun args h x e => by
  unfold spec45 at e
  split at e
  · split at e
    · rename_i h1 h2
      split at e
      · rename_i hn
        simp only [Option.some.injEq] at e; subst e; exact c45_ok D12 (fun _ _ => rfl) h _ _ h1 h2 hn
      · cases e
    · cases e
  · cases e)
noncomputable def O14 : CallF := addI O13 44 spec44
theorem o14 : Sound Go.Proofs.Try.prog O14 := Sound.add follows ok o13 (by decide) (fun args h x e => by
  unfold spec44 at e
  split at e
  · rename_i n c
    split at e
    · rename_i hh
      simp only [Option.some.injEq] at e; subst e
      obtain ⟨N, rfl⟩ : ∃ N : Nat, n = N := ⟨n.toNat, by omega⟩
      exact c44_ok O13 (fun _ _ => rfl) h (by omega) (by omega) ⟨hh.2.2.1, hh.2.2.2⟩
    · cases e
  · cases e)
structure KnO (J : CallF) : Prop extends KnB J where
  k45 : ∀ (h : Heap) (x y : AV) (a b : List Int) (hx : listOf h x = some a) (hy : listOf h y = some b) (hn : a.length ≤ 1000000), J 45 [x, y] h = some (.bool (decide (a = b)), [], false)
  k44 : ∀ (h : Heap) (n c : Int) (h0 : 1 ≤ n) (h2 : n ≤ 36) (h3 : 0 ≤ c) (h4 : c < n), J 44 [G n, G c] h = some (.agg [.slice (h.size + 3) 0 n.toNat n.toNat, .slice (h.size + 5) 0 n.toNat n.toNat], own44 h.size n.toNat c, false)
theorem p45 (h : Heap) (x y : AV) (a b : List Int) (hx : listOf h x = some a) (hy : listOf h y = some b) (hn : a.length ≤ 1000000) : O14 45 [x, y] h = some (.bool (decide (a = b)), [], false) := by
  have : O13 45 [x, y] h = some (.bool (decide (a = b)), [], false) := by simp [O13, addI, spec45, hx, hy, hn]
  exact this
theorem p44 (h : Heap) (n c : Int) (h0 : 1 ≤ n) (h2 : n ≤ 36) (h3 : 0 ≤ c) (h4 : c < n) : O14 44 [G n, G c] h = some (.agg [.slice (h.size + 3) 0 n.toNat n.toNat, .slice (h.size + 5) 0 n.toNat n.toNat], own44 h.size n.toNat c, false) := by
  simp only [O14, addI, if_true, spec44, if_pos (show 1 ≤ n ∧ n ≤ 36 ∧ 0 ≤ c ∧ c < n from ⟨h0, h2, h3, h4⟩)]
theorem knO : Kn O14 := ⟨f67, f68, f59, f52, f60, f54, f58, f57, f56, f25, f18, f20, f30, f29, f31, f24, f22, f28, f23, f55, f27, f55r⟩
theorem knO14 : KnO O14 := ⟨⟨⟨⟨knO, y26, y32, y33, y33n, y34, y34n⟩, y43, y39, y39n⟩, y38⟩, p45, p44⟩

/-! ### A course in memory -/
def CO (H : Heap) (b : Nat) (La Lr : List Int) : Prop := ∃ xa xr, H.get b = .cells 0 2 [xa, xr] ∧ listOf H xa = some La ∧ listOf H xr = some Lr
theorem listOf_kp {M : Nat → Prop} {h h' : Heap} (k : Kp M h h') (hm : ∀ q, q < h.size → ¬ M q) {x : AV} {l : List Int} (hx : listOf h x = some l) : listOf h' x = some l := by
  rcases listOf_some hx with ⟨rfl, rfl⟩ | ⟨b, v, rfl, g⟩
  · rfl
  · exact listOf_cells (k.at g (by simp) (hm b (get_lt g (by simp)))) rfl
theorem CO.kp {M : Nat → Prop} {h h' : Heap} (k : Kp M h h') (hm : ∀ q, q < h.size → ¬ M q) {b : Nat} {La Lr : List Int} (c : CO h b La Lr) : CO h' b La Lr := by
  obtain ⟨xa, xr, g, l1, l2⟩ := c
  exact ⟨xa, xr, k.at g (by simp) (hm b (get_lt g (by simp))), listOf_kp k hm l1, listOf_kp k hm l2⟩
theorem CO.plus {h : Heap} (xs : List AObj) {b : Nat} {La Lr : List Int} (c : CO h b La Lr) : CO (h.plus xs) b La Lr := c.kp (M := fun _ => False) (Kp.plus _ _) (fun _ _ => id)

section
variable {lot c x0 x1 x2 : Int} {x y : AV} {La Lr : List Int} {n : Nat}
abbrev X12 (S n : Nat) : AObj := .cells 0 2 [.slice (S + 5) 0 n n, .slice (S + 2) 0 n n]
abbrev Y12 (S n : Nat) : AObj := .cells 0 2 [.slice (S + 3) 0 n n, .slice (S + 5) 0 n n]
theorem w12_1 (J : CallF) (K : KnO J) (h : Heap) (e1 : lotZ x0 = lot) (e2 : nZ x0 x1 = n) (e3 : cZ x0 x1 x2 = c) : Tr tbl J (.seq c12_o0 c12_o1) (fun s h' => s = T.set (T.set (T.set .leaf [] (.agg [G x0, G x1, G x2])) [false] x) [true] y ∧ h' = frameOf h) .normal (fun s h' => s.get [false] = x ∧ s.get [true] = y ∧ s.get [false, false, false] = G lot ∧ s.get [true, false, false] = G n ∧ s.get [false, true, false] = G c ∧ h' = ⟨h.get, h.size, [.cells 0 3 [G x0, G x1, G x2]]⟩) := by
  have t : Tr tbl J ((.seq c12_o0 c12_o1)) (fun s h' => s = T.set (T.set (T.set .leaf [] (.agg [G x0, G x1, G x2])) [false] x) [true] y ∧ h' = frameOf h) .normal (fun s h' => s.get [false] = x ∧ s.get [true] = y ∧ s.get [false, false, false] = G lot ∧ s.get [true, false, false] = G n ∧ s.get [false, true, false] = G c ∧ h' = ⟨h.get, h.size, [.cells 0 3 [G x0, G x1, G x2]]⟩) := Tr.region fun s h hp => by
    obtain ⟨rfl, rfl⟩ := hp
    simp (disch := first | omega | exact getEq rfl | exact getO0 | exact Nat.le_of_ble_eq_true rfl) [c12_o0, c12_o1, frameOf, came_some, goI, List.getElem?_cons_zero, List.getElem?_cons_succ, kn, keep, frameOf, size_mk, get_mk_lt, get_mk_ge, Eff.app, Heap.setOwn, putAt, AV.cells, fillA, loadA, takeA, mk, Eff.isAll, Eff.isNone, Eff.commutes, Eff.spares, okPair, apart, eqAgg, fits, LK.fits, allEq, aveq, eqk, mmA, beqT, wrapI, idxI, tdivI, tmodI, decT, decF, ibT, ibF, inT, inF, evScope_c, if_pos, if_neg, K.k22, e1, e2, e3]
  exact t
theorem w12_2 (J : CallF) {q0 m0 m1 : Nat} {xr : AV} {own : List AObj} (H : Heap) (k : J 43 [G lot, x, y] H = some (.agg [.slice q0 0 m0 m1, xr], own, false)) (hne : own ≠ []) : Tr tbl J c12_o2 (fun s h => s.get [false] = x ∧ s.get [true] = y ∧ s.get [false, false, false] = G lot ∧ s.get [true, false, false] = G n ∧ s.get [false, true, false] = G c ∧ h = H) .normal (fun s h => s.get [false, false, false] = G lot ∧ s.get [true, false, false] = G n ∧ s.get [false, true, false] = G c ∧ s.get [true, true, false] = .ptr (H.plus own).size 0 2 ∧ h = (H.plus own).plus [.cells 0 2 [.slice q0 0 m0 m1, xr]]) := by
  have t : Tr tbl J (c12_o2) (fun s h => s.get [false] = x ∧ s.get [true] = y ∧ s.get [false, false, false] = G lot ∧ s.get [true, false, false] = G n ∧ s.get [false, true, false] = G c ∧ h = H) .normal (fun s h => s.get [false, false, false] = G lot ∧ s.get [true, false, false] = G n ∧ s.get [false, true, false] = G c ∧ s.get [true, true, false] = .ptr (H.plus own).size 0 2 ∧ h = (H.plus own).plus [.cells 0 2 [.slice q0 0 m0 m1, xr]]) := Tr.region fun s h hp => by
    obtain ⟨g0, g1, g2, g3, g4, rfl⟩ := hp
    simp (disch := first | omega | exact getEq rfl | exact getO0 | exact Nat.le_of_ble_eq_true rfl) [c12_o2, came_some, goI, List.getElem?_cons_zero, List.getElem?_cons_succ, kn, keep, app_growP, app_noneP, plus_N, plus_at0, put_plus0, upd_N, upd_size, putAt, AV.cells, fillA, loadA, takeA, mk, Eff.isAll, Eff.isNone, Eff.commutes, Eff.spares, okPair, apart, eqAgg, fits, LK.fits, allEq, aveq, eqk, mmA, beqT, wrapI, idxI, tdivI, tmodI, decT, decF, ibT, ibF, inT, inF, evScope_c, if_pos, if_neg, g0, g1, g2, g3, g4, k, hne]
  exact t
theorem w12_3 (J : CallF) {b10 q0 m0 m1 : Nat} {xa xr cr : AV} {own : List AObj} (H : Heap) (f10 : H.get b10 = .cells 0 2 [xa, xr]) (k : J 38 [.agg [xa, xr]] H = some (.agg [.slice q0 0 m0 m1, cr], own, false)) (hne : own ≠ []) : Tr tbl J c12_o3 (fun s h => s.get [false, false, false] = G lot ∧ s.get [true, false, false] = G n ∧ s.get [false, true, false] = G c ∧ s.get [true, true, false] = .ptr b10 0 2 ∧ h = H) .normal (fun s h => s.get [false, false, false] = G lot ∧ s.get [true, false, false] = G n ∧ s.get [false, true, false] = G c ∧ s.get [true, true, false] = .ptr b10 0 2 ∧ s.get [false, false, true] = .ptr (H.plus own).size 0 2 ∧ h = (H.plus own).plus [.cells 0 2 [.slice q0 0 m0 m1, cr]]) := by
  have t : Tr tbl J (c12_o3) (fun s h => s.get [false, false, false] = G lot ∧ s.get [true, false, false] = G n ∧ s.get [false, true, false] = G c ∧ s.get [true, true, false] = .ptr b10 0 2 ∧ h = H) .normal (fun s h => s.get [false, false, false] = G lot ∧ s.get [true, false, false] = G n ∧ s.get [false, true, false] = G c ∧ s.get [true, true, false] = .ptr b10 0 2 ∧ s.get [false, false, true] = .ptr (H.plus own).size 0 2 ∧ h = (H.plus own).plus [.cells 0 2 [.slice q0 0 m0 m1, cr]]) := Tr.region fun s h hp => by
    obtain ⟨g0, g1, g2, g3, rfl⟩ := hp
    simp (disch := first | omega | exact getEq rfl | exact getO0 | exact Nat.le_of_ble_eq_true rfl) [c12_o3, came_some, goI, List.getElem?_cons_zero, List.getElem?_cons_succ, kn, keep, app_growP, app_noneP, plus_N, plus_at0, put_plus0, upd_N, upd_size, putAt, AV.cells, fillA, loadA, takeA, mk, Eff.isAll, Eff.isNone, Eff.commutes, Eff.spares, okPair, apart, eqAgg, fits, LK.fits, allEq, aveq, eqk, mmA, beqT, wrapI, idxI, tdivI, tmodI, decT, decF, ibT, ibF, inT, inF, evScope_c, if_pos, if_neg, g0, g1, g2, g3, f10, k, hne]
  exact t
theorem w12_4 (J : CallF) {b10 : Nat} {xa xr v34 v39 x11 : AV} {own : List AObj} (H : Heap) (f10 : H.get b10 = .cells 0 2 [xa, xr]) (k34 : J 34 [G lot, G 0, .agg [xa, xr]] H = some (v34, [], false)) (k39 : J 39 [G lot, G lot, .agg [xa, xr]] H = some (v39, own, false)) (hne : own ≠ []) (k33 : J 33 [G lot, .agg [xa, xr]] (H.plus own) = some (G 0, [], false)) : Tr tbl J (.seq c12_o4 (.seq c12_o5 c12_o6)) (fun s h => s.get [false, false, false] = G lot ∧ s.get [true, false, false] = G n ∧ s.get [false, true, false] = G c ∧ s.get [true, true, false] = .ptr b10 0 2 ∧ s.get [false, false, true] = x11 ∧ h = H) .normal (fun s h => s.get [false, false, false] = G lot ∧ s.get [true, false, false] = G n ∧ s.get [false, true, false] = G c ∧ s.get [true, true, false] = .ptr b10 0 2 ∧ s.get [false, false, true] = x11 ∧ h = H.plus own) := by
  have f10' := plus_keep own f10 (by simp)
  have t : Tr tbl J ((.seq c12_o4 (.seq c12_o5 c12_o6))) (fun s h => s.get [false, false, false] = G lot ∧ s.get [true, false, false] = G n ∧ s.get [false, true, false] = G c ∧ s.get [true, true, false] = .ptr b10 0 2 ∧ s.get [false, false, true] = x11 ∧ h = H) .normal (fun s h => s.get [false, false, false] = G lot ∧ s.get [true, false, false] = G n ∧ s.get [false, true, false] = G c ∧ s.get [true, true, false] = .ptr b10 0 2 ∧ s.get [false, false, true] = x11 ∧ h = H.plus own) := Tr.region fun s h hp => by
    obtain ⟨g0, g1, g2, g3, g4, rfl⟩ := hp
    simp (disch := first | omega | exact getEq rfl | exact getO0 | exact Nat.le_of_ble_eq_true rfl) [c12_o4, c12_o5, c12_o6, came_some, goI, List.getElem?_cons_zero, List.getElem?_cons_succ, kn, keep, app_growP, app_noneP, plus_N, plus_at0, put_plus0, upd_N, upd_size, putAt, AV.cells, fillA, loadA, takeA, mk, Eff.isAll, Eff.isNone, Eff.commutes, Eff.spares, okPair, apart, eqAgg, fits, LK.fits, allEq, aveq, eqk, mmA, beqT, wrapI, idxI, tdivI, tmodI, decT, decF, ibT, ibF, inT, inF, evScope_c, if_pos, if_neg, g0, g1, g2, g3, g4, f10, f10', k34, k39, hne, k33]
  exact t
theorem w12_7 (J : CallF) (K : KnO J) (hl : 1 ≤ lot ∧ lot ≤ 36) (hn : 1 ≤ n ∧ (n : Int) ≤ lot) (hc : 0 ≤ c ∧ c < n) (x10 x11 : AV) (H : Heap) : Tr tbl J c12_o7 (fun s h => s.get [false, false, false] = G lot ∧ s.get [true, false, false] = G n ∧ s.get [false, true, false] = G c ∧ s.get [true, true, false] = x10 ∧ s.get [false, false, true] = x11 ∧ h = H) .normal (fun s h => s.get [false, false, false] = G lot ∧ s.get [true, false, false] = G n ∧ s.get [false, true, false] = G c ∧ s.get [true, true, false] = x10 ∧ s.get [false, false, true] = x11 ∧ s.get [true, false, true] = .ptr (H.plus (own32 H.size n c)).size 0 2 ∧ s.get [false, true, true] = G 0 ∧ h = (H.plus (own32 H.size n c)).plus [X12 H.size n]) := by
  have k := fun h => K.k32 h lot n c (by omega) hn.2 hl.2 hc.1 hc.2
  simp only [Int.toNat_natCast] at k
  have hne : ∀ S, own32 S n c ≠ [] := fun S => by simp [own32]
  have t : Tr tbl J (c12_o7) (fun s h => s.get [false, false, false] = G lot ∧ s.get [true, false, false] = G n ∧ s.get [false, true, false] = G c ∧ s.get [true, true, false] = x10 ∧ s.get [false, false, true] = x11 ∧ h = H) .normal (fun s h => s.get [false, false, false] = G lot ∧ s.get [true, false, false] = G n ∧ s.get [false, true, false] = G c ∧ s.get [true, true, false] = x10 ∧ s.get [false, false, true] = x11 ∧ s.get [true, false, true] = .ptr (H.plus (own32 H.size n c)).size 0 2 ∧ s.get [false, true, true] = G 0 ∧ h = (H.plus (own32 H.size n c)).plus [X12 H.size n]) := Tr.region fun s h hp => by
    obtain ⟨g0, g1, g2, g3, g4, rfl⟩ := hp
    simp (disch := first | omega | exact getEq rfl | exact getO0 | exact Nat.le_of_ble_eq_true rfl) [c12_o7, came_some, goI, List.getElem?_cons_zero, List.getElem?_cons_succ, kn, keep, app_growP, app_noneP, plus_N, plus_at0, put_plus0, upd_N, upd_size, putAt, AV.cells, fillA, loadA, takeA, mk, Eff.isAll, Eff.isNone, Eff.commutes, Eff.spares, okPair, apart, eqAgg, fits, LK.fits, allEq, aveq, eqk, mmA, beqT, wrapI, idxI, tdivI, tmodI, decT, decF, ibT, ibF, inT, inF, evScope_c, if_pos, if_neg, g0, g1, g2, g3, g4, k, hne]
  exact t
/-- While the new course is written over. -/
def W12 (H : Heap) (b n : Nat) (h : Heap) : Prop := Kp (fun _ => False) H h ∧ (b ≠ H.size + 5 ∧ b ≠ H.size + 2) ∧ h.get b = X12 H.size n ∧ (∃ cs, h.get (H.size + 5) = .cells 1 n cs ∧ cs.length = n) ∧ ∃ cs, h.get (H.size + 2) = .cells 1 n cs ∧ cs.length = n
theorem putAt_len (cs : List AV) (j : Nat) (x : AV) (hj : j < cs.length) : (putAt cs j [x]).length = cs.length := by
  simp [putAt]
theorem W12.p5 {H h : Heap} {b : Nat} (w : W12 H b n h) (j : Nat) (hj : j < n) (x : AV) : ∃ cs, h.get (H.size + 5) = .cells 1 n cs ∧ j < cs.length ∧ Eff.app (.put (H.size + 5) n j [x]) h = some (h.upd (H.size + 5) (.cells 1 n (putAt cs j [x]))) ∧ W12 H b n (h.upd (H.size + 5) (.cells 1 n (putAt cs j [x]))) := by
  obtain ⟨k, hb, fb, ⟨cs, f5, l5⟩, cs', f2, l2⟩ := w
  have hN : h.N ≤ H.size := by rw [k.N]; unfold Heap.size; omega
  refine ⟨cs, f5, by omega, put_gen _ _ _ _ _ _ _ (by omega) f5 (by simp; omega), k.updn _ _ (by omega) (by omega), hb, ?_, ⟨_, upd_same _ _ _ (by omega) (get_lt f5 (by simp)), by rw [putAt_len _ _ _ (by omega)]; exact l5⟩, cs', ?_, l2⟩
  · rw [upd_ne _ _ _ _ (by omega) (fun e => hb.1 e.symm)]; exact fb
  · rw [upd_ne _ _ _ _ (by omega) (by omega)]; exact f2
theorem W12.p2 {H h : Heap} {b : Nat} (w : W12 H b n h) (j : Nat) (hj : j < n) (x : AV) : ∃ cs, h.get (H.size + 2) = .cells 1 n cs ∧ j < cs.length ∧ Eff.app (.put (H.size + 2) n j [x]) h = some (h.upd (H.size + 2) (.cells 1 n (putAt cs j [x]))) ∧ W12 H b n (h.upd (H.size + 2) (.cells 1 n (putAt cs j [x]))) := by
  obtain ⟨k, hb, fb, ⟨cs, f5, l5⟩, cs', f2, l2⟩ := w
  have hN : h.N ≤ H.size := by rw [k.N]; unfold Heap.size; omega
  refine ⟨cs', f2, by omega, put_gen _ _ _ _ _ _ _ (by omega) f2 (by simp; omega), k.updn _ _ (by omega) (by omega), hb, ?_, ⟨cs, ?_, l5⟩, _, upd_same _ _ _ (by omega) (get_lt f2 (by simp)), by rw [putAt_len _ _ _ (by omega)]; exact l2⟩
  · rw [upd_ne _ _ _ _ (by omega) (fun e => hb.2 e.symm)]; exact fb
  · rw [upd_ne _ _ _ _ (by omega) (by omega)]; exact f5
abbrev L12 : List Path := [[false, false, false], [true, false, false], [false, true, false], [true, true, false], [false, false, true], [true, false, true], [false, true, true], [true, true, true]]
abbrev L12' : List Path := [[false, false, false], [true, false, false], [false, true, false], [true, true, false], [false, false, true], [true, false, true], [false, true, true], [false, false, false, false]]
theorem w12_8 (J : CallF) {b : Nat} {x10 x11 : AV} (H : Heap) (hn : n ≤ 36) : Tr tbl J (.seq c12_o8 (.block 0 c12_l0)) (fun s h => s.get [false, false, false] = G lot ∧ s.get [true, false, false] = G n ∧ s.get [false, true, false] = G c ∧ s.get [true, true, false] = x10 ∧ s.get [false, false, true] = x11 ∧ s.get [true, false, true] = .ptr b 0 2 ∧ s.get [false, true, true] = G 0 ∧ W12 H b n h) .normal (fun s h => s.get [false, false, false] = G lot ∧ s.get [true, false, false] = G n ∧ s.get [false, true, false] = G c ∧ s.get [true, true, false] = x10 ∧ s.get [false, false, true] = x11 ∧ s.get [true, false, true] = .ptr b 0 2 ∧ s.get [false, true, true] = G 0 ∧ W12 H b n h) := by
  have t0 : Tr tbl J (c12_o8) (fun s h => s.get [false, false, false] = G lot ∧ s.get [true, false, false] = G n ∧ s.get [false, true, false] = G c ∧ s.get [true, true, false] = x10 ∧ s.get [false, false, true] = x11 ∧ s.get [true, false, true] = .ptr b 0 2 ∧ s.get [false, true, true] = G 0 ∧ W12 H b n h) .normal (fun s h => s.get [false, false, false] = G lot ∧ s.get [true, false, false] = G n ∧ s.get [false, true, false] = G c ∧ s.get [true, true, false] = x10 ∧ s.get [false, false, true] = x11 ∧ s.get [true, false, true] = .ptr b 0 2 ∧ s.get [false, true, true] = G 0 ∧ s.get [true, true, true] = G ((0 : Nat) : Int) ∧ W12 H b n h) := Tr.region fun s h hp => by
    obtain ⟨g0, g1, g2, g3, g4, g5, g6, hh0⟩ := hp
    simp (disch := first | omega | exact getEq rfl | exact getO0 | exact Nat.le_of_ble_eq_true rfl) [c12_o8, came_some, goI, List.getElem?_cons_zero, List.getElem?_cons_succ, kn, keep, app_growP, app_noneP, plus_N, plus_at0, put_plus0, upd_N, upd_size, putAt, AV.cells, fillA, loadA, takeA, mk, Eff.isAll, Eff.isNone, Eff.commutes, Eff.spares, okPair, apart, eqAgg, fits, LK.fits, allEq, aveq, eqk, mmA, beqT, wrapI, idxI, tdivI, tmodI, decT, decF, ibT, ibF, inT, inF, evScope_c, if_pos, if_neg, g0, g1, g2, g3, g4, g5, g6, hh0]
  have t1 : Tr tbl J ((.trim L12 c12_b0)) (fun s h => s.get [false, false, false] = G lot ∧ s.get [true, false, false] = G n ∧ s.get [false, true, false] = G c ∧ s.get [true, true, false] = x10 ∧ s.get [false, false, true] = x11 ∧ s.get [true, false, true] = .ptr b 0 2 ∧ s.get [false, true, true] = G 0 ∧ s.get [true, true, true] = G n ∧ W12 H b n h) (.exit 0) (fun s h => s.get [false, false, false] = G lot ∧ s.get [true, false, false] = G n ∧ s.get [false, true, false] = G c ∧ s.get [true, true, false] = x10 ∧ s.get [false, false, true] = x11 ∧ s.get [true, false, true] = .ptr b 0 2 ∧ s.get [false, true, true] = G 0 ∧ W12 H b n h) := Tr.region fun s h hp => by
    obtain ⟨g0, g1, g2, g3, g4, g5, g6, g7, hh0⟩ := hp
    have fb := hh0.2.2.1
    simp (disch := first | omega | exact getEq rfl | exact getO0 | exact Nat.le_of_ble_eq_true rfl) [c12_b0, c12_o9, came_some, goI, List.getElem?_cons_zero, List.getElem?_cons_succ, kn, keep, app_growP, app_noneP, plus_N, plus_at0, put_plus0, upd_N, upd_size, putAt, AV.cells, fillA, loadA, takeA, mk, Eff.isAll, Eff.isNone, Eff.commutes, Eff.spares, okPair, apart, eqAgg, fits, LK.fits, allEq, aveq, eqk, mmA, beqT, wrapI, idxI, tdivI, tmodI, decT, decF, ibT, ibF, inT, inF, evScope_c, if_pos, if_neg, g0, g1, g2, g3, g4, g5, g6, g7, hh0, fb]
  refine Tr.seq t0 (Tr.block (Tr.rounds (P := fun j => (fun s h => s.get [false, false, false] = G lot ∧ s.get [true, false, false] = G n ∧ s.get [false, true, false] = G c ∧ s.get [true, true, false] = x10 ∧ s.get [false, false, true] = x11 ∧ s.get [true, false, true] = .ptr b 0 2 ∧ s.get [false, true, true] = G 0 ∧ s.get [true, true, true] = G j ∧ W12 H b n h)) (M := n) (fun j hj => ?_) t1 (by simp) 0 (by omega)))
  have t : Tr tbl J ((.trim L12 c12_b0)) (fun s h => s.get [false, false, false] = G lot ∧ s.get [true, false, false] = G n ∧ s.get [false, true, false] = G c ∧ s.get [true, true, false] = x10 ∧ s.get [false, false, true] = x11 ∧ s.get [true, false, true] = .ptr b 0 2 ∧ s.get [false, true, true] = G 0 ∧ s.get [true, true, true] = G j ∧ W12 H b n h) .normal (fun s h => s.get [false, false, false] = G lot ∧ s.get [true, false, false] = G n ∧ s.get [false, true, false] = G c ∧ s.get [true, true, false] = x10 ∧ s.get [false, false, true] = x11 ∧ s.get [true, false, true] = .ptr b 0 2 ∧ s.get [false, true, true] = G 0 ∧ s.get [true, true, true] = G ((j + 1 : Nat) : Int) ∧ W12 H b n h) := Tr.region fun s h hp => by
    obtain ⟨g0, g1, g2, g3, g4, g5, g6, g7, hh0⟩ := hp
    have fb := hh0.2.2.1
    obtain ⟨cs, f5, lj, q1, q2⟩ := hh0.p5 j hj (G 7)
    generalize hX : h.upd (H.size + 5) (.cells 1 n (putAt cs j [G 7])) = X at *
    simp (disch := first | omega | exact getEq rfl | exact getO0 | exact Nat.le_of_ble_eq_true rfl) [c12_b0, c12_o9, c12_o10, c12_o11, came_some, goI, List.getElem?_cons_zero, List.getElem?_cons_succ, kn, keep, app_growP, app_noneP, plus_N, plus_at0, put_plus0, upd_N, upd_size, putAt, AV.cells, fillA, loadA, takeA, mk, Eff.isAll, Eff.isNone, Eff.commutes, Eff.spares, okPair, apart, eqAgg, fits, LK.fits, allEq, aveq, eqk, mmA, beqT, wrapI, idxI, tdivI, tmodI, decT, decF, ibT, ibF, inT, inF, evScope_c, if_pos, if_neg, g0, g1, g2, g3, g4, g5, g6, g7, hh0, fb, f5, q1, q2]
  exact t
theorem w12_12 (J : CallF) {b : Nat} {x10 x11 : AV} (H : Heap) (hn : n ≤ 36) : Tr tbl J (.seq c12_o12 (.block 2 c12_l1)) (fun s h => s.get [false, false, false] = G lot ∧ s.get [true, false, false] = G n ∧ s.get [false, true, false] = G c ∧ s.get [true, true, false] = x10 ∧ s.get [false, false, true] = x11 ∧ s.get [true, false, true] = .ptr b 0 2 ∧ s.get [false, true, true] = G 0 ∧ W12 H b n h) .normal (fun s h => s.get [false, false, false] = G lot ∧ s.get [true, false, false] = G n ∧ s.get [false, true, false] = G c ∧ s.get [true, true, false] = x10 ∧ s.get [false, false, true] = x11 ∧ s.get [false, true, true] = G 0 ∧ W12 H b n h) := by
  have t0 : Tr tbl J (c12_o12) (fun s h => s.get [false, false, false] = G lot ∧ s.get [true, false, false] = G n ∧ s.get [false, true, false] = G c ∧ s.get [true, true, false] = x10 ∧ s.get [false, false, true] = x11 ∧ s.get [true, false, true] = .ptr b 0 2 ∧ s.get [false, true, true] = G 0 ∧ W12 H b n h) .normal (fun s h => s.get [false, false, false] = G lot ∧ s.get [true, false, false] = G n ∧ s.get [false, true, false] = G c ∧ s.get [true, true, false] = x10 ∧ s.get [false, false, true] = x11 ∧ s.get [true, false, true] = .ptr b 0 2 ∧ s.get [false, true, true] = G 0 ∧ s.get [false, false, false, false] = G ((0 : Nat) : Int) ∧ W12 H b n h) := Tr.region fun s h hp => by
    obtain ⟨g0, g1, g2, g3, g4, g5, g6, hh0⟩ := hp
    simp (disch := first | omega | exact getEq rfl | exact getO0 | exact Nat.le_of_ble_eq_true rfl) [c12_o12, came_some, goI, List.getElem?_cons_zero, List.getElem?_cons_succ, kn, keep, app_growP, app_noneP, plus_N, plus_at0, put_plus0, upd_N, upd_size, putAt, AV.cells, fillA, loadA, takeA, mk, Eff.isAll, Eff.isNone, Eff.commutes, Eff.spares, okPair, apart, eqAgg, fits, LK.fits, allEq, aveq, eqk, mmA, beqT, wrapI, idxI, tdivI, tmodI, decT, decF, ibT, ibF, inT, inF, evScope_c, if_pos, if_neg, g0, g1, g2, g3, g4, g5, g6, hh0]
  have t1 : Tr tbl J ((.trim L12' c12_b1)) (fun s h => s.get [false, false, false] = G lot ∧ s.get [true, false, false] = G n ∧ s.get [false, true, false] = G c ∧ s.get [true, true, false] = x10 ∧ s.get [false, false, true] = x11 ∧ s.get [true, false, true] = .ptr b 0 2 ∧ s.get [false, true, true] = G 0 ∧ s.get [false, false, false, false] = G n ∧ W12 H b n h) (.exit 2) (fun s h => s.get [false, false, false] = G lot ∧ s.get [true, false, false] = G n ∧ s.get [false, true, false] = G c ∧ s.get [true, true, false] = x10 ∧ s.get [false, false, true] = x11 ∧ s.get [false, true, true] = G 0 ∧ W12 H b n h) := Tr.region fun s h hp => by
    obtain ⟨g0, g1, g2, g3, g4, g5, g6, g7, hh0⟩ := hp
    have fb := hh0.2.2.1
    simp (disch := first | omega | exact getEq rfl | exact getO0 | exact Nat.le_of_ble_eq_true rfl) [c12_b1, c12_o13, came_some, goI, List.getElem?_cons_zero, List.getElem?_cons_succ, kn, keep, app_growP, app_noneP, plus_N, plus_at0, put_plus0, upd_N, upd_size, putAt, AV.cells, fillA, loadA, takeA, mk, Eff.isAll, Eff.isNone, Eff.commutes, Eff.spares, okPair, apart, eqAgg, fits, LK.fits, allEq, aveq, eqk, mmA, beqT, wrapI, idxI, tdivI, tmodI, decT, decF, ibT, ibF, inT, inF, evScope_c, if_pos, if_neg, g0, g1, g2, g3, g4, g5, g6, g7, hh0, fb]
  refine Tr.seq t0 (Tr.block (Tr.rounds (P := fun j => (fun s h => s.get [false, false, false] = G lot ∧ s.get [true, false, false] = G n ∧ s.get [false, true, false] = G c ∧ s.get [true, true, false] = x10 ∧ s.get [false, false, true] = x11 ∧ s.get [true, false, true] = .ptr b 0 2 ∧ s.get [false, true, true] = G 0 ∧ s.get [false, false, false, false] = G j ∧ W12 H b n h)) (M := n) (fun j hj => ?_) t1 (by simp) 0 (by omega)))
  have t : Tr tbl J ((.trim L12' c12_b1)) (fun s h => s.get [false, false, false] = G lot ∧ s.get [true, false, false] = G n ∧ s.get [false, true, false] = G c ∧ s.get [true, true, false] = x10 ∧ s.get [false, false, true] = x11 ∧ s.get [true, false, true] = .ptr b 0 2 ∧ s.get [false, true, true] = G 0 ∧ s.get [false, false, false, false] = G j ∧ W12 H b n h) .normal (fun s h => s.get [false, false, false] = G lot ∧ s.get [true, false, false] = G n ∧ s.get [false, true, false] = G c ∧ s.get [true, true, false] = x10 ∧ s.get [false, false, true] = x11 ∧ s.get [true, false, true] = .ptr b 0 2 ∧ s.get [false, true, true] = G 0 ∧ s.get [false, false, false, false] = G ((j + 1 : Nat) : Int) ∧ W12 H b n h) := Tr.region fun s h hp => by
    obtain ⟨g0, g1, g2, g3, g4, g5, g6, g7, hh0⟩ := hp
    have fb := hh0.2.2.1
    obtain ⟨cs, f5, lj, q1, q2⟩ := hh0.p2 j hj (G (-7))
    generalize hX : h.upd (H.size + 2) (.cells 1 n (putAt cs j [G (-7)])) = X at *
    simp (disch := first | omega | exact getEq rfl | exact getO0 | exact Nat.le_of_ble_eq_true rfl) [c12_b1, c12_o13, c12_o14, c12_o15, came_some, goI, List.getElem?_cons_zero, List.getElem?_cons_succ, kn, keep, app_growP, app_noneP, plus_N, plus_at0, put_plus0, upd_N, upd_size, putAt, AV.cells, fillA, loadA, takeA, mk, Eff.isAll, Eff.isNone, Eff.commutes, Eff.spares, okPair, apart, eqAgg, fits, LK.fits, allEq, aveq, eqk, mmA, beqT, wrapI, idxI, tdivI, tmodI, decT, decF, ibT, ibF, inT, inF, evScope_c, if_pos, if_neg, g0, g1, g2, g3, g4, g5, g6, g7, hh0, fb, f5, q1, q2]
  exact t
theorem w12_16 (J : CallF) (K : KnO J) (hl : 1 ≤ lot ∧ lot ≤ 36) (hn : 1 ≤ n ∧ (n : Int) ≤ lot) (hc : 0 ≤ c ∧ c < n) (x10 x11 : AV) (H : Heap) : Tr tbl J c12_o16 (fun s h => s.get [false, false, false] = G lot ∧ s.get [true, false, false] = G n ∧ s.get [false, true, false] = G c ∧ s.get [true, true, false] = x10 ∧ s.get [false, false, true] = x11 ∧ s.get [false, true, true] = G 0 ∧ h = H) .normal (fun s h => s.get [true, false, false] = G n ∧ s.get [false, true, false] = G c ∧ s.get [true, true, false] = x10 ∧ s.get [false, false, true] = x11 ∧ s.get [false, true, true] = G 0 ∧ s.get [true, false, false, false] = .ptr (H.plus (own32 H.size n c)).size 0 2 ∧ s.get [false, true, false, false] = G 0 ∧ h = (H.plus (own32 H.size n c)).plus [X12 H.size n]) := by
  have k := fun h => K.k32 h lot n c (by omega) hn.2 hl.2 hc.1 hc.2
  simp only [Int.toNat_natCast] at k
  have hne : ∀ S, own32 S n c ≠ [] := fun S => by simp [own32]
  have t : Tr tbl J (c12_o16) (fun s h => s.get [false, false, false] = G lot ∧ s.get [true, false, false] = G n ∧ s.get [false, true, false] = G c ∧ s.get [true, true, false] = x10 ∧ s.get [false, false, true] = x11 ∧ s.get [false, true, true] = G 0 ∧ h = H) .normal (fun s h => s.get [true, false, false] = G n ∧ s.get [false, true, false] = G c ∧ s.get [true, true, false] = x10 ∧ s.get [false, false, true] = x11 ∧ s.get [false, true, true] = G 0 ∧ s.get [true, false, false, false] = .ptr (H.plus (own32 H.size n c)).size 0 2 ∧ s.get [false, true, false, false] = G 0 ∧ h = (H.plus (own32 H.size n c)).plus [X12 H.size n]) := Tr.region fun s h hp => by
    obtain ⟨g0, g1, g2, g3, g4, g5, rfl⟩ := hp
    simp (disch := first | omega | exact getEq rfl | exact getO0 | exact Nat.le_of_ble_eq_true rfl) [c12_o16, came_some, goI, List.getElem?_cons_zero, List.getElem?_cons_succ, kn, keep, app_growP, app_noneP, plus_N, plus_at0, put_plus0, upd_N, upd_size, putAt, AV.cells, fillA, loadA, takeA, mk, Eff.isAll, Eff.isNone, Eff.commutes, Eff.spares, okPair, apart, eqAgg, fits, LK.fits, allEq, aveq, eqk, mmA, beqT, wrapI, idxI, tdivI, tmodI, decT, decF, ibT, ibF, inT, inF, evScope_c, if_pos, if_neg, g0, g1, g2, g3, g4, g5, k, hne]
  exact t
theorem w12_17 (J : CallF) (K : KnO J) (hn : 1 ≤ n ∧ n ≤ 36) (hc : 0 ≤ c ∧ c < n) (x10 x11 x16 : AV) (H : Heap) : Tr tbl J c12_o17 (fun s h => s.get [true, false, false] = G n ∧ s.get [false, true, false] = G c ∧ s.get [true, true, false] = x10 ∧ s.get [false, false, true] = x11 ∧ s.get [false, true, true] = G 0 ∧ s.get [true, false, false, false] = x16 ∧ s.get [false, true, false, false] = G 0 ∧ h = H) .normal (fun s h => s.get [true, true, false] = x10 ∧ s.get [false, false, true] = x11 ∧ s.get [false, true, true] = G 0 ∧ s.get [true, false, false, false] = x16 ∧ s.get [false, true, false, false] = G 0 ∧ s.get [true, true, false, false] = .ptr (H.plus (own44 H.size n c)).size 0 2 ∧ h = (H.plus (own44 H.size n c)).plus [Y12 H.size n]) := by
  have k := fun h => K.k44 h n c (by omega) (by omega) hc.1 hc.2
  simp only [Int.toNat_natCast] at k
  have hne : ∀ S, own44 S n c ≠ [] := fun S => by simp [own44]
  have t : Tr tbl J (c12_o17) (fun s h => s.get [true, false, false] = G n ∧ s.get [false, true, false] = G c ∧ s.get [true, true, false] = x10 ∧ s.get [false, false, true] = x11 ∧ s.get [false, true, true] = G 0 ∧ s.get [true, false, false, false] = x16 ∧ s.get [false, true, false, false] = G 0 ∧ h = H) .normal (fun s h => s.get [true, true, false] = x10 ∧ s.get [false, false, true] = x11 ∧ s.get [false, true, true] = G 0 ∧ s.get [true, false, false, false] = x16 ∧ s.get [false, true, false, false] = G 0 ∧ s.get [true, true, false, false] = .ptr (H.plus (own44 H.size n c)).size 0 2 ∧ h = (H.plus (own44 H.size n c)).plus [Y12 H.size n]) := Tr.region fun s h hp => by
    obtain ⟨g0, g1, g2, g3, g4, g5, g6, rfl⟩ := hp
    simp (disch := first | omega | exact getEq rfl | exact getO0 | exact Nat.le_of_ble_eq_true rfl) [c12_o17, came_some, goI, List.getElem?_cons_zero, List.getElem?_cons_succ, kn, keep, app_growP, app_noneP, plus_N, plus_at0, put_plus0, upd_N, upd_size, putAt, AV.cells, fillA, loadA, takeA, mk, Eff.isAll, Eff.isNone, Eff.commutes, Eff.spares, okPair, apart, eqAgg, fits, LK.fits, allEq, aveq, eqk, mmA, beqT, wrapI, idxI, tdivI, tmodI, decT, decF, ibT, ibF, inT, inF, evScope_c, if_pos, if_neg, g0, g1, g2, g3, g4, g5, g6, k, hne]
  exact t
theorem w12_18 (J : CallF) (K : KnO J) {b10 b11 b16 b18 : Nat} {La Lr Lc Ld : List Int} (H : Heap) (c10 : CO H b10 La Lr) (c11 : CO H b11 La Lr) (c16 : CO H b16 Lc Ld) (c18 : CO H b18 Lc Ld) (l1 : La.length ≤ 36) (l2 : Lr.length ≤ 36) (l3 : Lc.length ≤ 36) (l4 : Ld.length ≤ 36) : Tr tbl J (.seq c12_o18 .ret) (fun s h => s.get [true, true, false] = .ptr b10 0 2 ∧ s.get [false, false, true] = .ptr b11 0 2 ∧ s.get [false, true, true] = G 0 ∧ s.get [true, false, false, false] = .ptr b16 0 2 ∧ s.get [false, true, false, false] = G 0 ∧ s.get [true, true, false, false] = .ptr b18 0 2 ∧ h = H) .ret (fun s h => s.get [true, true] = .bool true) := by
  obtain ⟨a1, r1, f10, p1, q1⟩ := c10
  obtain ⟨a2, r2, f11, p2, q2⟩ := c11
  obtain ⟨a3, r3, f16, p3, q3⟩ := c16
  obtain ⟨a4, r4, f18, p4, q4⟩ := c18
  have k1 := K.k45 H a1 a2 La La p1 p2 (by omega)
  have k2 := K.k45 H r1 r2 Lr Lr q1 q2 (by omega)
  have k3 := K.k45 H a3 a4 Lc Lc p3 p4 (by omega)
  have k4 := K.k45 H r3 r4 Ld Ld q3 q4 (by omega)
  clear p1 p2 p3 p4 q1 q2 q3 q4
  have t : Tr tbl J ((.seq c12_o18 .ret)) (fun s h => s.get [true, true, false] = .ptr b10 0 2 ∧ s.get [false, false, true] = .ptr b11 0 2 ∧ s.get [false, true, true] = G 0 ∧ s.get [true, false, false, false] = .ptr b16 0 2 ∧ s.get [false, true, false, false] = G 0 ∧ s.get [true, true, false, false] = .ptr b18 0 2 ∧ h = H) .ret (fun s h => s.get [true, true] = .bool true) := Tr.region fun s h hp => by
    obtain ⟨g0, g1, g2, g3, g4, g5, rfl⟩ := hp
    simp (disch := first | omega | exact getEq rfl | exact getO0 | exact Nat.le_of_ble_eq_true rfl) [c12_o18, came_some, goI, List.getElem?_cons_zero, List.getElem?_cons_succ, kn, keep, app_growP, app_noneP, plus_N, plus_at0, put_plus0, upd_N, upd_size, putAt, AV.cells, fillA, loadA, takeA, mk, Eff.isAll, Eff.isNone, Eff.commutes, Eff.spares, okPair, apart, eqAgg, fits, LK.fits, allEq, aveq, eqk, mmA, beqT, wrapI, idxI, tdivI, tmodI, decT, decF, ibT, ibF, inT, inF, evScope_c, if_pos, if_neg, g0, g1, g2, g3, g4, g5, f10, f11, f16, f18, k1, k2, k3, k4, K.k20]
  exact t
end

theorem own_law (J : CallF) (K : KnO J) (hJ : ∀ a h, J 12 a h = none) (h : Heap) (x0 x1 x2 : Int) {x y : AV} {A R : List Int} (hx : LR h x A) (hy : LR h y R) : CallsTo tbl J 12 [.agg [G x0, G x1, G x2], x, y] h (.bool true, [], false) := by
  have hl := lotZ_in x0
  have hn := nZ_in x0 x1
  have hc := cZ_in x0 x1 x2
  obtain ⟨lot, e1⟩ : ∃ z, lotZ x0 = z := ⟨_, rfl⟩
  obtain ⟨n, e2⟩ : ∃ z : Nat, nZ x0 x1 = z := ⟨(nZ x0 x1).toNat, by omega⟩
  obtain ⟨c, e3⟩ : ∃ z, cZ x0 x1 x2 = z := ⟨_, rfl⟩
  rw [e1] at hl hn
  rw [e2] at hn hc
  rw [e3] at hc
  have hc' : 0 ≤ c ∧ c < n := by omega
  have hn' : 1 ≤ n ∧ (n : Int) ≤ lot := by omega
  refine Tr.fnv (cf := c12) (e := .ret) (s := T.set (T.set (T.set .leaf [] (.agg [G x0, G x1, G x2])) [false] x) [true] y) (by decide) rfl (hJ _ _) rfl rfl rfl (by simp) ?_
  refine Tr.post (Q := (fun s h => s.get [true, true] = .bool true)) (fun s h q => by simp [c12, q]) (Tr.app2 (w12_1 J K h e1 e2 e3) ?_)
  have hx1 := hx.lo [.cells 0 3 [G x0, G x1, G x2]]
  have hy1 := hy.lo [.cells 0 3 [G x0, G x1, G x2]]
  generalize (⟨h.get, h.size, [.cells 0 3 [G x0, G x1, G x2]]⟩ : Heap) = H1 at *
  obtain ⟨xa, xr, own, La, Lr, q1, q2, q3, q4, q5⟩ := K.k43 H1 lot x y A R hx1 hy1 hl
  have hn1 := q4.1
  have hn2 := q4.2.1
  have hne : La ≠ [] := fun e => by rw [e] at hn1; simp at hn1
  have hsl : ∀ {h : Heap} {z : AV} {L : List Int}, listOf h z = some L → L ≠ [] → ∃ b v, z = .slice b 0 L.length v := fun e hL => by
    rcases listOf_some e with ⟨_, e'⟩ | ⟨b, v, e', g⟩
    · exact absurd e' hL
    · exact ⟨b, v, e'⟩
  obtain ⟨qa, va, rfl⟩ := hsl q2 hne
  refine Tr.seq (w12_2 J H1 q1 q5) ?_
  obtain ⟨H2, s2⟩ : ∃ H, (H1.plus own).plus [.cells 0 2 [.slice qa 0 La.length va, xr]] = H := ⟨_, rfl⟩
  have f10 : H2.get (H1.plus own).size = .cells 0 2 [.slice qa 0 La.length va, xr] := by rw [← s2]; exact plus_at0 _ _ _ _ rfl
  have la : listOf H2 (.slice qa 0 La.length va) = some La := by rw [← s2]; exact listOf_plus _ q2
  have lr : listOf H2 xr = some Lr := by rw [← s2]; exact listOf_plus _ q3
  rw [s2]
  generalize (H1.plus own).size = b10 at *
  clear s2 q1 q2 q3 hx1 hy1
  -- the copy
  obtain ⟨ca, cr, own', k38, r1, r2, r3⟩ := K.k38 H2 _ _ _ _ (.inl la) (.inl lr)
  have t37 : La.take 37 = La := List.take_of_length_le (by omega)
  have t37' : Lr.take 37 = Lr := List.take_of_length_le (by omega)
  rw [t37] at r1
  rw [t37'] at r2
  obtain ⟨qc, vc, rfl⟩ := hsl r1 hne
  refine Tr.seq (w12_3 J H2 f10 k38 (r3 hne)) ?_
  obtain ⟨H3, s3⟩ : ∃ H, (H2.plus own').plus [.cells 0 2 [.slice qc 0 La.length vc, cr]] = H := ⟨_, rfl⟩
  have c11 : CO H3 (H2.plus own').size La Lr := ⟨_, _, by rw [← s3]; exact plus_at0 _ _ _ _ rfl, by rw [← s3]; exact listOf_plus _ r1, by rw [← s3]; exact listOf_plus _ r2⟩
  have f10 : H3.get b10 = .cells 0 2 [.slice qa 0 La.length va, xr] := by rw [← s3]; exact plus_keep _ (plus_keep _ f10 (by simp)) (by simp)
  have la : listOf H3 (.slice qa 0 La.length va) = some La := by rw [← s3]; exact listOf_plus _ (listOf_plus _ la)
  have lr : listOf H3 xr = some Lr := by rw [← s3]; exact listOf_plus _ (listOf_plus _ lr)
  rw [s3]
  generalize (H2.plus own').size = b11 at *
  clear s3 r1 r2 r3 k38
  -- what is called for nothing
  have hlot0 : lotOk lot 0 := ⟨hl, by omega⟩
  have hlot : lotOk lot lot := ⟨hl, by omega⟩
  have k34 := K.k34 H3 lot 0 _ _ _ _ la lr hlot0 q4
  obtain ⟨v39, own39, k39, ba, br, _, _, _, ne39⟩ := K.k39 H3 lot lot _ _ _ _ la lr ⟨hlot, q4⟩
  have k33 := K.k33 (H3.plus own39) lot _ _ _ _ (listOf_plus own39 la) (listOf_plus own39 lr) hlot0 q4
  refine Tr.app3 (w12_4 J H3 f10 k34 k39 ne39 k33) ?_
  have c11 := c11.plus own39
  have c10 : CO (H3.plus own39) b10 La Lr := ⟨_, _, plus_keep own39 f10 (by simp), listOf_plus _ la, listOf_plus _ lr⟩
  generalize H3.plus own39 = H6 at *
  clear k34 k39 k33 f10 la lr
  -- a course, written over
  refine Tr.seq (w12_7 J K hl hn' hc' _ _ H6) ?_
  have n36 : n ≤ 36 := by omega
  have g5 : ∀ H : Heap, ((H.plus (own32 H.size n c)).plus [X12 H.size n]).get (H.size + 5) = .cells 1 n (zs (cA n c) n) := fun H => by
    refine plus_keep _ ?_ (by simp)
    rw [plus_ge _ _ _ (by omega), Nat.add_sub_cancel_left]; rfl
  have g2 : ∀ H : Heap, ((H.plus (own32 H.size n c)).plus [X12 H.size n]).get (H.size + 2) = .cells 1 n (List.replicate n (G (c + 1))) := fun H => by
    refine plus_keep _ ?_ (by simp)
    rw [plus_ge _ _ _ (by omega), Nat.add_sub_cancel_left]; rfl
  have hb : ∀ H : Heap, (H.plus (own32 H.size n c)).size ≠ H.size + 5 ∧ (H.plus (own32 H.size n c)).size ≠ H.size + 2 := fun H => by
    rw [plus_size]
    have : 6 ≤ (own32 H.size n c).length := by simp [own32]
    omega
  refine Tr.pre (P := (fun s h => s.get [false, false, false] = G lot ∧ s.get [true, false, false] = G n ∧ s.get [false, true, false] = G c ∧ s.get [true, true, false] = .ptr b10 0 2 ∧ s.get [false, false, true] = .ptr b11 0 2 ∧ s.get [true, false, true] = .ptr (H6.plus (own32 H6.size n c)).size 0 2 ∧ s.get [false, true, true] = G 0 ∧ W12 H6 (H6.plus (own32 H6.size n c)).size n h)) (fun s h hp => ?_) (Tr.seq (w12_8 J H6 n36) (Tr.seq (w12_12 J H6 n36) ?_))
  · obtain ⟨p0, p1, p2, p3, p4, p5, p6, rfl⟩ := hp
    exact ⟨p0, p1, p2, p3, p4, p5, p6, (Kp.plus _ _).trans (Kp.plus _ _), hb H6, plus_at0 _ _ _ _ rfl, ⟨_, g5 H6, by rw [zs_len]⟩, _, g2 H6, by simp⟩
  refine Tr.fix (F := fun h => Kp (fun _ => False) H6 h) (P' := fun H => (fun s h => s.get [false, false, false] = G lot ∧ s.get [true, false, false] = G n ∧ s.get [false, true, false] = G c ∧ s.get [true, true, false] = .ptr b10 0 2 ∧ s.get [false, false, true] = .ptr b11 0 2 ∧ s.get [false, true, true] = G 0 ∧ h = H)) (fun H7 hK => ?_) (fun s h hp => ⟨hp.2.2.2.2.2.2.1, hp.1, hp.2.1, hp.2.2.1, hp.2.2.2.1, hp.2.2.2.2.1, hp.2.2.2.2.2.1, rfl⟩)
  have c10 := c10.kp hK (fun _ _ => id)
  have c11 := c11.kp hK (fun _ _ => id)
  -- another one, and the reference's
  refine Tr.seq (w12_16 J K hl hn' hc' _ _ H7) ?_
  have hrep : ∀ m : Nat, List.replicate m (G (c + 1)) = gs (zl (fun _ => c + 1) m) := by
    intro m
    induction m with
    | zero => rfl
    | succ m ih => rw [List.replicate_succ', ih]; simp [zl]
  have c16 : CO ((H7.plus (own32 H7.size n c)).plus [X12 H7.size n]) (H7.plus (own32 H7.size n c)).size (zl (cA n c) n) (zl (fun _ => c + 1) n) := ⟨_, _, plus_at0 _ _ _ _ rfl, listOf_cells (by rw [g5, zs_map]) (zl_len _ _), listOf_cells (by rw [g2, hrep]) (zl_len _ _)⟩
  have c10 := (c10.plus (own32 H7.size n c)).plus [X12 H7.size n]
  have c11 := (c11.plus (own32 H7.size n c)).plus [X12 H7.size n]
  generalize (H7.plus (own32 H7.size n c)).size = b16 at *
  generalize (H7.plus (own32 H7.size n c)).plus [X12 H7.size n] = H8 at *
  refine Tr.seq (w12_17 J K (by omega) hc' _ _ _ H8) ?_
  have d3 : ((H8.plus (own44 H8.size n c)).plus [Y12 H8.size n]).get (H8.size + 3) = .cells 1 n (zs (cA n c) n) := by
    refine plus_keep _ ?_ (by simp)
    rw [plus_ge _ _ _ (by omega), Nat.add_sub_cancel_left]; rfl
  have d5 : ((H8.plus (own44 H8.size n c)).plus [Y12 H8.size n]).get (H8.size + 5) = .cells 1 n (zs (fun _ => c + 1) n) := by
    refine plus_keep _ ?_ (by simp)
    rw [plus_ge _ _ _ (by omega), Nat.add_sub_cancel_left]; rfl
  have c18 : CO ((H8.plus (own44 H8.size n c)).plus [Y12 H8.size n]) (H8.plus (own44 H8.size n c)).size (zl (cA n c) n) (zl (fun _ => c + 1) n) := ⟨_, _, plus_at0 _ _ _ _ rfl, listOf_cells (by rw [d3, zs_map]) (zl_len _ _), listOf_cells (by rw [d5, zs_map]) (zl_len _ _)⟩
  exact w12_18 J K _ ((c10.plus _).plus _) ((c11.plus _).plus _) ((c16.plus _).plus _) c18 (by omega) (by omega) (by rw [zl_len]; omega) (by rw [zl_len]; omega)

theorem own_ok (h : Heap) (x0 x1 x2 : Int) {x y : AV} {A R : List Int} (hx : LR h x A) (hy : LR h y R) : CallsTo tbl O14 12 [.agg [G x0, G x1, G x2], x, y] h (.bool true, [], false) := own_law O14 knO14 (fun _ _ => rfl) h x0 x1 x2 hx hy

end Go.Proofs.Ytlkgpcfhpeilhaa.Ev
