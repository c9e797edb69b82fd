/-
  SampleCourses answers true at any two ints and any course, as the evaluator runs it. No condition.
-/
import Derived.Test.YtlkgpcfhpeilhaaSTab3
import Derived.Test.YtlkgpcfhpeilhaaSRefC
set_option linter.unusedVariables false
set_option linter.unusedSimpArgs false
namespace Go.Proofs.Ytlkgpcfhpeilhaa.Ev
open Go Go.AEv

attribute [local simp] evFunc initS evOps_c evTrim_c evSkip_c evExit_c evRet_c evSeq_c evCond_c evBlock_c evDraw_c runOps_n runOps_c exec_n exec_g pure1_c act AOpd.ev T.get T.set T.put evBin evUn forceT_eq forceV_eq forceL_eq evRess evRes one keep runFP_n runFP_c app_none AV.flats AV.flat

/-! ### The reference's Course -/
section
variable {lot bad : Int} {x y : AV} {A R : List Int} {n : Nat}
abbrev L41 : List Path := [[true, false, false], [false, true, false], [true, true, false], [false, false, true], [true, false, true]]
theorem c41_step (J : CallF) {ba va br vr : Nat} {c1 c2 : List AV} {a b y1 y3 : Nat} (H : Heap) (k : Nat) (hk : k < n) (hn : n ≤ 36) (fa : H.get ba = .cells 1 va c1) (fb : H.get br = .cells 1 vr c2) (e1 : c1[k]? = some (G a)) (e2 : c2[k]? = some (G b)) (ha : a + b ≤ 1099511627776) (h1 : y1 ≤ 1000000000000000) (h3 : y3 ≤ 1000000000000000) :
    Tr tbl J (.trim L41 c41_b0) (fun s h => s.get [true, false, false] = .slice ba 0 n va ∧ s.get [false, true, false] = .slice br 0 n vr ∧ s.get [true, true, false] = G y1 ∧ s.get [false, false, true] = G y3 ∧ s.get [true, false, true] = G k ∧ h = H) .normal (fun s h => s.get [true, false, false] = .slice ba 0 n va ∧ s.get [false, true, false] = .slice br 0 n vr ∧ s.get [true, true, false] = G ((y1 + a : Nat) : Int) ∧ s.get [false, false, true] = G ((y3 + (k + 1) * (a + b) : Nat) : Int) ∧ s.get [true, false, true] = G ((k + 1 : Nat) : Int) ∧ h = H) := by
  obtain ⟨m1, m2⟩ := mul_bd (x := (k : Int) + 1) (y := (a : Int) + b) (X := 36) (Y := 1099511627776) (by omega) (by omega) (by omega) (by omega)
  have w1 : ((y1 + a : Nat) : Int) = y1 + a := by omega
  have w3 : ((y3 + (k + 1) * (a + b) : Nat) : Int) = y3 + ((k : Int) + 1) * (a + b) := by simp
  have e1' : ∀ h : k < c1.length, c1[k] = G a := fun h => by rw [List.getElem?_eq_getElem h] at e1; exact Option.some.inj e1
  have e2' : ∀ h : k < c2.length, c2[k] = G b := fun h => by rw [List.getElem?_eq_getElem h] at e2; exact Option.some.inj e2
  rw [w1, w3]
  have t : Tr tbl J ((.trim L41 c41_b0)) (fun s h => s.get [true, false, false] = .slice ba 0 n va ∧ s.get [false, true, false] = .slice br 0 n vr ∧ s.get [true, true, false] = G y1 ∧ s.get [false, false, true] = G y3 ∧ s.get [true, false, true] = G k ∧ h = H) .normal (fun s h => s.get [true, false, false] = .slice ba 0 n va ∧ s.get [false, true, false] = .slice br 0 n vr ∧ s.get [true, true, false] = G ((y1 : Int) + a) ∧ s.get [false, false, true] = G ((y3 : Int) + ((k : Int) + 1) * (a + b)) ∧ s.get [true, false, true] = G ((k + 1 : Nat) : Int) ∧ h = H) := Tr.region fun s h hp => by
    obtain ⟨g0, g1, g2, g3, g4, rfl⟩ := hp
    simp (disch := first | omega | exact getEq rfl | exact getO0 | exact Nat.le_of_ble_eq_true rfl) [-evDraw_c, c41_b0, c41_o4, c41_o5, c41_o6, c41_o7, came_some, goI, List.getElem?_cons_zero, List.getElem?_cons_succ, kn, keep, app_growP, app_noneP, plus_N, plus_at0, put_plus0, upd_N, upd_size, putAt, AV.cells, fillA, loadA, takeA, mk, Eff.isAll, Eff.isNone, Eff.commutes, Eff.spares, okPair, apart, eqAgg, fits, LK.fits, allEq, aveq, eqk, mmA, beqT, wrapI, idxI, tdivI, tmodI, decT, decF, ibT, ibF, inT, inF, evScope_c, if_pos, if_neg, g0, g1, g2, g3, g4, Go.Proofs.Ytlkgpcfhpeilhaa.Ev.evDraw_0, fa, fb, e1, e2, e1', e2']
  exact t
end
abbrev K42 (J : CallF) : Prop := ∀ (h : Heap) (lot bad : Int) (x y : AV) (A R : List Int), listOf h x = some A → listOf h y = some R → lotOk lot bad → crsOk lot A R → ∃ v own, J 42 [G lot, G bad, .agg [x, y]] h = some (v, own, false) ∧ Got42 h v own lot bad A R
theorem c41_ok (J : CallF) (k42 : K42 J) (hJ : ∀ a h, J 41 a h = none) (h : Heap) {lot bad : Int} {x y : AV} {A R : List Int} (hx : listOf h x = some A) (hy : listOf h y = some R) (hl : lotOk lot bad) (hc : crsOk lot A R) :
    CallsTo tbl J 41 [G lot, G bad, .agg [x, y]] h (.tup [G (yT lot bad (A.getD · 0) (R.getD · 0) A.length), G (pT lot bad (A.getD · 0) (R.getD · 0) A.length)], [], false) := by
  refine Tr.fnv (cf := c41) (e := .ret) (s := T.set (T.set (T.set .leaf [] (G lot)) [false] (G bad)) [true] (.agg [x, y])) (by decide) rfl (hJ _ _) rfl rfl rfl (by simp) ?_
  obtain ⟨v, own, k, xa, xr, rfl, la, lr, hne⟩ := k42 ⟨h.get, h.size, [.cells 0 2 [x, y]]⟩ lot bad x y A R (listOf_at hx _) (listOf_at hy _) hl hc
  obtain ⟨n, hn⟩ : ∃ n, A.length = n := ⟨_, rfl⟩
  have hc1 := hc.1
  unfold lotOk at hl
  rw [hn] at la lr hc1 ⊢
  have ln1 : (yL lot bad (A.getD · 0) (R.getD · 0) n).length = n := zl_len _ _
  have ln2 : (nL lot bad (A.getD · 0) (R.getD · 0) n).length = n := zl_len _ _
  rcases listOf_some la with ⟨_, e⟩ | ⟨ba, va, rfl, ga⟩
  · rw [e] at ln1; simp at ln1; omega
  rcases listOf_some lr with ⟨_, e⟩ | ⟨br, vr, rfl, gr⟩
  · rw [e] at ln2; simp at ln2; omega
  rw [ln1, ln2] at k
  have ea : ∀ i, i < n → ((yL lot bad (A.getD · 0) (R.getD · 0) n).map fun n => AV.int .i64 n)[i]? = some (G (yC lot bad (A.getD · 0) (R.getD · 0) i)) := fun i hi => by
    rw [List.getElem?_map, zl_get, if_pos hi]; rfl
  have er : ∀ i, i < n → ((nL lot bad (A.getD · 0) (R.getD · 0) n).map fun n => AV.int .i64 n)[i]? = some (G (nC lot bad (A.getD · 0) (R.getD · 0) i)) := fun i hi => by
    rw [List.getElem?_map, zl_get, if_pos hi]; rfl
  clear la lr ln1 ln2
  generalize ((yL lot bad (A.getD · 0) (R.getD · 0) n).map fun n => AV.int .i64 n) = c1 at *
  generalize ((nL lot bad (A.getD · 0) (R.getD · 0) n).map fun n => AV.int .i64 n) = c2 at *
  have t0 : Tr tbl J (c41_o0) (fun s h' => s = T.set (T.set (T.set .leaf [] (G lot)) [false] (G bad)) [true] (.agg [x, y]) ∧ h' = frameOf h) .normal (fun s h' => s.get [] = G lot ∧ s.get [false] = G bad ∧ s.get [false, true] = .ptr h.size 0 2 ∧ h' = ⟨h.get, h.size, [.cells 0 2 [x, y]]⟩) := Tr.region fun s h hp => by
    obtain ⟨rfl, rfl⟩ := hp
    simp (disch := first | omega | exact getEq rfl | exact getO0 | exact Nat.le_of_ble_eq_true rfl) [c41_o0, frameOf, came_some, goI, List.getElem?_cons_zero, List.getElem?_cons_succ, kn, keep, frameOf, size_mk, get_mk_lt, get_mk_ge, Eff.app, Heap.setOwn, putAt, AV.cells, fillA, loadA, takeA, mk, Eff.isAll, Eff.isNone, Eff.commutes, Eff.spares, okPair, apart, eqAgg, fits, LK.fits, allEq, aveq, eqk, mmA, beqT, wrapI, idxI, tdivI, tmodI, decT, decF, ibT, ibF, inT, inF, evScope_c, if_pos, if_neg]
  have f5 : Heap.get ⟨h.get, h.size, [.cells 0 2 [x, y]]⟩ h.size = .cells 0 2 [x, y] := by rw [get_mk_ge _ _ _ _ (by omega), Nat.sub_self]; rfl
  generalize (⟨h.get, h.size, [.cells 0 2 [x, y]]⟩ : Heap) = H1 at *
  have t1 : Tr tbl J (c41_o1) (fun s h' => s.get [] = G lot ∧ s.get [false] = G bad ∧ s.get [false, true] = .ptr h.size 0 2 ∧ h' = H1) .normal (fun s h' => s.get [true, false, false] = .slice ba 0 n va ∧ s.get [false, true, false] = .slice br 0 n vr ∧ h' = H1.plus own) := Tr.region fun s h hp => by
    obtain ⟨g0, g1, g2, rfl⟩ := hp
    simp (disch := first | omega | exact getEq rfl | exact getO0 | exact Nat.le_of_ble_eq_true rfl) [c41_o1, came_some, goI, List.getElem?_cons_zero, List.getElem?_cons_succ, kn, keep, app_growP, app_noneP, plus_N, plus_at0, put_plus0, upd_N, upd_size, putAt, AV.cells, fillA, loadA, takeA, mk, Eff.isAll, Eff.isNone, Eff.commutes, Eff.spares, okPair, apart, eqAgg, fits, LK.fits, allEq, aveq, eqk, mmA, beqT, wrapI, idxI, tdivI, tmodI, decT, decF, ibT, ibF, inT, inF, evScope_c, if_pos, if_neg, g0, g1, g2, f5, k, hne]
  generalize H1.plus own = H2 at *
  have t2 : Tr tbl J ((.seq c41_o2 c41_o3)) (fun s h' => s.get [true, false, false] = .slice ba 0 n va ∧ s.get [false, true, false] = .slice br 0 n vr ∧ h' = H2) .normal (fun s h' => s.get [true, false, false] = .slice ba 0 n va ∧ s.get [false, true, false] = .slice br 0 n vr ∧ s.get [true, true, false] = G ((0 : Nat) : Int) ∧ s.get [false, false, true] = G ((0 : Nat) : Int) ∧ s.get [true, false, true] = G ((0 : Nat) : Int) ∧ h' = H2) := Tr.region fun s h hp => by
    obtain ⟨g0, g1, rfl⟩ := hp
    simp (disch := first | omega | exact getEq rfl | exact getO0 | exact Nat.le_of_ble_eq_true rfl) [c41_o2, c41_o3, came_some, goI, List.getElem?_cons_zero, List.getElem?_cons_succ, kn, keep, app_growP, app_noneP, plus_N, plus_at0, put_plus0, upd_N, upd_size, putAt, AV.cells, fillA, loadA, takeA, mk, Eff.isAll, Eff.isNone, Eff.commutes, Eff.spares, okPair, apart, eqAgg, fits, LK.fits, allEq, aveq, eqk, mmA, beqT, wrapI, idxI, tdivI, tmodI, decT, decF, ibT, ibF, inT, inF, evScope_c, if_pos, if_neg, g0, g1]
  have b1 : 0 ≤ bad := by omega
  have b2 : bad ≤ lot := by omega
  have l2 : lot ≤ 36 := by omega
  have z3 := ofZ_36 (lot := lot) (bad := bad) l2
  have tend : ∀ yn pn : Nat, Tr tbl J (.trim L41 c41_b0) (fun s h' => s.get [true, false, false] = .slice ba 0 n va ∧ s.get [false, true, false] = .slice br 0 n vr ∧ s.get [true, true, false] = G yn ∧ s.get [false, false, true] = G pn ∧ s.get [true, false, true] = G n ∧ h' = H2) (.exit 0) (fun s h' => s.get [true, true, false] = G yn ∧ s.get [false, false, true] = G pn) := fun yn pn => by
    have t : Tr tbl J ((.trim L41 c41_b0)) (fun s h' => s.get [true, false, false] = .slice ba 0 n va ∧ s.get [false, true, false] = .slice br 0 n vr ∧ s.get [true, true, false] = G yn ∧ s.get [false, false, true] = G pn ∧ s.get [true, false, true] = G n ∧ h' = H2) (.exit 0) (fun s h => s.get [true, true, false] = G yn ∧ s.get [false, false, true] = G pn) := Tr.region fun s h hp => by
      obtain ⟨g0, g1, g2, g3, g4, rfl⟩ := hp
      simp (disch := first | omega | exact getEq rfl | exact getO0 | exact Nat.le_of_ble_eq_true rfl) [c41_b0, c41_o4, came_some, goI, List.getElem?_cons_zero, List.getElem?_cons_succ, kn, keep, app_growP, app_noneP, plus_N, plus_at0, put_plus0, upd_N, upd_size, putAt, AV.cells, fillA, loadA, takeA, mk, Eff.isAll, Eff.isNone, Eff.commutes, Eff.spares, okPair, apart, eqAgg, fits, LK.fits, allEq, aveq, eqk, mmA, beqT, wrapI, idxI, tdivI, tmodI, decT, decF, ibT, ibF, inT, inF, evScope_c, if_pos, if_neg, g0, g1, g2, g3, g4]
    exact t
  have tl := Tr.rounds (P := fun j => (fun s h' => s.get [true, false, false] = .slice ba 0 n va ∧ s.get [false, true, false] = .slice br 0 n vr ∧ s.get [true, true, false] = G (yT lot bad (A.getD · 0) (R.getD · 0) j) ∧ s.get [false, false, true] = G (pT lot bad (A.getD · 0) (R.getD · 0) j) ∧ s.get [true, false, true] = G j ∧ h' = H2)) (M := n) (fun j hj => by
    have k1 := yT_le (lot := lot) (bad := bad) (A := (A.getD · 0)) (R := (R.getD · 0)) b1 b2 j (by omega)
    have k2 := pT_le (lot := lot) (bad := bad) (A := (A.getD · 0)) (R := (R.getD · 0)) b1 b2 l2 j (by omega)
    have k3 := Nat.mul_le_mul (show j ≤ 36 by omega) z3
    have k4 := Nat.mul_le_mul (show j ≤ 36 by omega) (Nat.mul_le_mul_left 36 z3)
    have k6 := yn_all (lot := lot) (bad := bad) (A := (A.getD · 0)) (R := (R.getD · 0)) j (j + 2) (by omega) b1 b2
    exact c41_step J H2 j hj (by omega) ga gr (ea j hj) (er j hj) (Nat.le_trans k6 (by omega)) (by omega) (by omega)) (tend _ _) (by simp) 0 (by omega)
  have t8 : Tr tbl J ((.seq c41_o8 .ret)) (fun s h => s.get [true, true, false] = G (yT lot bad (A.getD · 0) (R.getD · 0) n) ∧ s.get [false, false, true] = G (pT lot bad (A.getD · 0) (R.getD · 0) n)) .ret (fun s h => s.get [true, true] = G (yT lot bad (A.getD · 0) (R.getD · 0) n) ∧ s.get [false, false, false] = G (pT lot bad (A.getD · 0) (R.getD · 0) n)) := Tr.region fun s h hp => by
    obtain ⟨g0, g1⟩ := hp
    simp (disch := first | omega | exact getEq rfl | exact getO0 | exact Nat.le_of_ble_eq_true rfl) [c41_o8, came_some, goI, List.getElem?_cons_zero, List.getElem?_cons_succ, kn, keep, frameOf, Heap.size, Heap.get, Eff.app, Heap.setOwn, putAt, AV.cells, fillA, loadA, takeA, mk, Eff.isAll, Eff.isNone, Eff.commutes, Eff.spares, okPair, apart, eqAgg, fits, LK.fits, allEq, aveq, eqk, mmA, beqT, wrapI, idxI, tdivI, tmodI, decT, decF, ibT, ibF, inT, inF, evScope_c, if_pos, if_neg, g0, g1]
  obtain ⟨_, x2, x3⟩ := t2.split
  refine Tr.post (fun s h' q => ?_) (Tr.seq t0 (Tr.seq t1 (Tr.seq x2 (Tr.seq (Tr.seq x3 (Tr.block tl)) t8))))
  obtain ⟨q6, q7⟩ := q
  simp [c41, evRess, evRes, q6, q7, one]

/-! ### What is known -/
open Classical in
noncomputable def spec40c : SpecF := fun args h => match args with
  | [.int .i64 lot, .agg [x, y]] => match listOf h x, listOf h y with
    | some A, some R => if lot ≤ 36 then some (.bool (decide (crsOk lot A R)), [], false) else none
    | _, _ => none
  | _ => none
def spec65c : SpecF := fun args h => match args with
  | [.agg [.slice bA 0 nA vA, .slice bR 0 nR vR], .int .i64 i, .int .i64 k] => match h.get bA, h.get bR with
    | .cells 1 v1 c1, .cells 1 v2 c2 => if v1 = vA ∧ v2 = vR ∧ 1 ≤ i ∧ i ≤ 1000 ∧ i ≤ nA ∧ i ≤ nR then (match c1[(i - 1).toNat]?, c2[(i - 1).toNat]? with
      | some (.int .i64 a), some (.int .i64 r) => some (G (decZ a r k), [], false)
      | _, _ => none) else none
    | _, _ => none
  | _ => none
open Classical in
noncomputable def spec41c : SpecF := fun args h => match args with
  | [.int .i64 lot, .int .i64 bad, .agg [x, y]] => match listOf h x, listOf h y with
    | some A, some R => if lotOk lot bad ∧ crsOk lot A R then some (.tup [G (yT lot bad (A.getD · 0) (R.getD · 0) A.length), G (pT lot bad (A.getD · 0) (R.getD · 0) A.length)], [], false) else none
    | _, _ => none
  | _ => none
def Good42 (args : List AV) (h : Heap) (v : AV) (own : List AObj) : Prop := ∀ lot bad x y A R, args = [G lot, G bad, .agg [x, y]] → listOf h x = some A → listOf h y = some R → lotOk lot bad → crsOk lot A R → Got42 h v own lot bad A R

noncomputable def C13 : CallF := addI D12 40 spec40c
theorem r13 : Sound Go.Proofs.Try.prog C13 := Sound.add follows ok u12 (by decide) (fun args h x e => by
  unfold spec40c at e
  split at e
  · split at e
    · rename_i h1 h2
      split at e
      · rename_i hl
        simp only [Option.some.injEq] at e; subst e; exact c40_all D12 (fun _ _ => rfl) h _ _ h1 h2 hl
      · cases e
    · cases e
  · cases e)
noncomputable def C14 : CallF := addI C13 65 spec65c
theorem r14 : Sound Go.Proofs.Try.prog C14 := Sound.add follows ok r13 (by decide) (fun args h x e => by
  unfold spec65c at e
  split at e
  · rename_i bA nA vA bR nR vR i k
    split at e
    · rename_i v1 c1 v2 c2 hg1 hg2
      split at e
      · rename_i hh
        obtain ⟨rfl, rfl, h1, h2, h3, h4⟩ := hh
        split at e
        · rename_i a r x1 x2
          simp only [Option.some.injEq] at e; subst e
          obtain ⟨j, rfl⟩ : ∃ j : Nat, i = ((j + 1 : Nat) : Int) := ⟨(i - 1).toNat, by omega⟩
          rw [show (((j + 1 : Nat) : Int) - 1).toNat = j by omega] at x1 x2
          exact c65_ok C13 (fun _ _ => rfl) h (by omega) (by omega) (by omega) hg1 hg2 x1 x2
        · cases e
      · cases e
    · cases e
  · cases e)
theorem x65 : K65' C14 := fun h bA bR nA vA nR vR j k a r c1 c2 h2 h3 h4 g1 g2 x1 x2 => by
  have hj : (((j + 1 : Nat) : Int) - 1).toNat = j := by omega
  simp only [C14, addI, if_true, spec65c, g1, g2, hj, x1, x2]
  rw [if_pos ⟨trivial, trivial, by omega, by omega, by omega, by omega⟩]
noncomputable def C15 : CallF := addX tbl C14 42 Good42
theorem r15 : Sound Go.Proofs.Try.prog C15 := Sound.addX follows ok r14 (by decide) Good42
theorem knC14 : Kn C14 := ⟨f67, f68, f59, f52, f60, f54, f58, f57, f56, f25, f18, f20, f30, f29, f31, f24, f22, f28, f23, f55, f27, f55r⟩
theorem x42 : K42 C15 := fun h lot bad x y A R hx hy hl hc => by
  obtain ⟨v, own, e, q⟩ := c42_ok C14 knC14 x65 (fun _ _ => rfl) h hx hy hl hc
  obtain ⟨v', own', e', g⟩ := addX_some (tbl := tbl) (I := C14) (f := 42) (Good := Good42) (args := [G lot, G bad, .agg [x, y]]) (h := h) ⟨v, own, e, fun lot' bad' x' y' A' R' hargs h1 h2 _ _ => by
    simp only [List.cons.injEq, AV.int.injEq, AV.agg.injEq, true_and, and_true] at hargs
    obtain ⟨rfl, rfl, rfl, rfl⟩ := hargs
    obtain rfl := listOf_inj hx h1
    obtain rfl := listOf_inj hy h2
    exact q⟩
  exact ⟨v', own', e', g lot bad x y A R rfl hx hy hl hc⟩
noncomputable def C16 : CallF := addI C15 41 spec41c
theorem r16 : Sound Go.Proofs.Try.prog C16 := Sound.add follows ok r15 (by decide) (fun args h x e => by
  unfold spec41c at e
  split at e
  · split at e
    · rename_i h1 h2
      split at e
      · rename_i hl
        simp only [Option.some.injEq] at e; subst e; exact c41_ok C15 x42 (fun _ _ => rfl) h h1 h2 hl.1 hl.2
      · cases e
    · cases e
  · cases e)
structure KnR (J : CallF) : Prop extends KnB J where
  k40 : ∀ (h : Heap) (lot : Int) (x y : AV) (A R : List Int) (hx : listOf h x = some A) (hy : listOf h y = some R) (hl : lot ≤ 36) (b : Bool) (hb : crsOk lot A R ↔ b = true), J 40 [G lot, .agg [x, y]] h = some (.bool b, [], false)
  k41 : ∀ (h : Heap) (lot bad : Int) (x y : AV) (A R : List Int) (hx : listOf h x = some A) (hy : listOf h y = some R) (hl : lotOk lot bad) (hc : crsOk lot A R), J 41 [G lot, G bad, .agg [x, y]] h = some (.tup [G (yT lot bad (A.getD · 0) (R.getD · 0) A.length), G (pT lot bad (A.getD · 0) (R.getD · 0) A.length)], [], false)
  k42 : K42 J
theorem x40 (h : Heap) (lot : Int) (x y : AV) (A R : List Int) (hx : listOf h x = some A) (hy : listOf h y = some R) (hl : lot ≤ 36) (b : Bool) (hb : crsOk lot A R ↔ b = true) : C16 40 [G lot, .agg [x, y]] h = some (.bool b, [], false) := by
  have : C13 40 [G lot, .agg [x, y]] h = some (.bool b, [], false) := by
    simp only [C13, addI, if_true, spec40c, hx, hy, if_pos hl]
    rw [show @decide (crsOk lot A R) (Classical.propDecidable _) = b by
      cases b
      · exact @decide_eq_false _ (Classical.propDecidable _) (fun q => by simpa using hb.1 q)
      · exact @decide_eq_true _ (Classical.propDecidable _) (hb.2 rfl)]
  exact this
theorem x41 (h : Heap) (lot bad : Int) (x y : AV) (A R : List Int) (hx : listOf h x = some A) (hy : listOf h y = some R) (hl : lotOk lot bad) (hc : crsOk lot A R) : C16 41 [G lot, G bad, .agg [x, y]] h = some (.tup [G (yT lot bad (A.getD · 0) (R.getD · 0) A.length), G (pT lot bad (A.getD · 0) (R.getD · 0) A.length)], [], false) := by
  simp only [C16, addI, if_true, spec41c, hx, hy, if_pos (⟨hl, hc⟩ : lotOk lot bad ∧ crsOk lot A R)]
theorem x42' : K42 C16 := x42
theorem knR0 : Kn C16 := ⟨f67, f68, f59, f52, f60, f54, f58, f57, f56, f25, f18, f20, f30, f29, f31, f24, f22, f28, f23, f55, f27, f55r⟩
theorem knR16 : KnR C16 := ⟨⟨⟨⟨knR0, y26, y32, y33, y33n, y34, y34n⟩, y43, y39, y39n⟩, y38⟩, x40, x41, x42'⟩

/-! ### The law -/
theorem put_two (h : Heap) (a b : AV) (U V : AV) (zs : List AObj) : Eff.app (.put h.size 2 0 [U, V]) ((h.plus [.cells 0 2 [a, b]]).plus zs) = some ((h.plus [.cells 0 2 [U, V]]).plus zs) := by
  rw [plus_plus, plus_plus]; exact put_plus0 h 2 0 0 [a, b] [U, V] zs h.size rfl (by simp)
theorem put_two1 (h : Heap) (X : AObj) (a b : AV) (U V : AV) : Eff.app (.put (h.size + 1) 2 0 [U, V]) ((h.plus [X]).plus [.cells 0 2 [a, b]]) = some ((h.plus [X]).plus [.cells 0 2 [U, V]]) :=
  put_plus0 (h.plus [X]) 2 0 0 [a, b] [U, V] [] (h.size + 1) (by rw [plus_size]; rfl) (by simp)
section
variable {lot bad : Int} {x y xa xr : AV} {La Lr : List Int} {n Z b7 : Nat}
theorem w11_0 (J : CallF) {own : List AObj} (h : Heap) (k : J 38 [.agg [x, y]] ⟨h.get, h.size, [.cells 0 2 [x, y]]⟩ = some (.agg [xa, xr], own, false)) (hs : (∃ b n v, xa = .slice b 0 n v) ∨ xa = .nils) (hs' : (∃ b n v, xr = .slice b 0 n v) ∨ xr = .nils) :
    Tr tbl J (.seq c11_o0 c11_o1) (fun s h' => s = T.set (T.set (T.set .leaf [] (G lot)) [false] (G bad)) [true] (.agg [x, y]) ∧ h' = frameOf h) .normal (fun s h' => s.get [] = G lot ∧ s.get [false] = G bad ∧ s.get [false, false, false] = .ptr (Heap.size (Heap.plus ⟨h.get, h.size, [.cells 0 2 [x, y]]⟩ own)) 0 2 ∧ h' = (Heap.plus ⟨h.get, h.size, [.cells 0 2 [x, y]]⟩ own).plus [.cells 0 2 [xa, xr]]) := by
  have t0 : Tr tbl J (c11_o0) (fun s h' => s = T.set (T.set (T.set .leaf [] (G lot)) [false] (G bad)) [true] (.agg [x, y]) ∧ h' = frameOf h) .normal (fun s h' => s.get [] = G lot ∧ s.get [false] = G bad ∧ s.get [false, true] = .ptr h.size 0 2 ∧ h' = ⟨h.get, h.size, [.cells 0 2 [x, y]]⟩) := Tr.region fun s h hp => by
    obtain ⟨rfl, rfl⟩ := hp
    simp (disch := first | omega | exact getEq rfl | exact getO0 | exact Nat.le_of_ble_eq_true rfl) [c11_o0, frameOf, came_some, goI, List.getElem?_cons_zero, List.getElem?_cons_succ, kn, keep, frameOf, size_mk, get_mk_lt, get_mk_ge, Eff.app, Heap.setOwn, putAt, AV.cells, fillA, loadA, takeA, mk, Eff.isAll, Eff.isNone, Eff.commutes, Eff.spares, okPair, apart, eqAgg, fits, LK.fits, allEq, aveq, eqk, mmA, beqT, wrapI, idxI, tdivI, tmodI, decT, decF, ibT, ibF, inT, inF, evScope_c, if_pos, if_neg]
  have f5 : Heap.get ⟨h.get, h.size, [.cells 0 2 [x, y]]⟩ h.size = .cells 0 2 [x, y] := by rw [get_mk_ge _ _ _ _ (by omega), Nat.sub_self]; rfl
  generalize (⟨h.get, h.size, [.cells 0 2 [x, y]]⟩ : Heap) = H at *
  refine Tr.seq t0 ?_
  by_cases hne : own = []
  · subst hne
    rw [plus_nil]
    have t : Tr tbl J c11_o1 (fun s h' => s.get [] = G lot ∧ s.get [false] = G bad ∧ s.get [false, true] = .ptr h.size 0 2 ∧ h' = H) .normal (fun s h' => s.get [] = G lot ∧ s.get [false] = G bad ∧ s.get [false, false, false] = .ptr H.size 0 2 ∧ h' = H.plus [.cells 0 2 [xa, xr]]) := by
      have t : Tr tbl J (c11_o1) (fun s h' => s.get [] = G lot ∧ s.get [false] = G bad ∧ s.get [false, true] = .ptr h.size 0 2 ∧ h' = H) .normal (fun s h' => s.get [] = G lot ∧ s.get [false] = G bad ∧ s.get [false, false, false] = .ptr H.size 0 2 ∧ h' = H.plus [.cells 0 2 [xa, xr]]) := Tr.region fun s h hp => by
        obtain ⟨g0, g1, g2, rfl⟩ := hp
        rcases hs with ⟨b, n, v, rfl⟩ | rfl <;> rcases hs' with ⟨b', n', v', rfl⟩ | rfl <;> simp (disch := first | omega | exact getEq rfl | exact getO0 | exact Nat.le_of_ble_eq_true rfl) [c11_o1, came_some, goI, List.getElem?_cons_zero, List.getElem?_cons_succ, kn, keep, app_growP, app_noneP, plus_N, plus_at0, put_plus0, upd_N, upd_size, putAt, AV.cells, fillA, loadA, takeA, mk, Eff.isAll, Eff.isNone, Eff.commutes, Eff.spares, okPair, apart, eqAgg, fits, LK.fits, allEq, aveq, eqk, mmA, beqT, wrapI, idxI, tdivI, tmodI, decT, decF, ibT, ibF, inT, inF, evScope_c, if_pos, if_neg, g0, g1, g2, f5, k]
      exact t
    exact t
  · have t : Tr tbl J c11_o1 (fun s h' => s.get [] = G lot ∧ s.get [false] = G bad ∧ s.get [false, true] = .ptr h.size 0 2 ∧ h' = H) .normal (fun s h' => s.get [] = G lot ∧ s.get [false] = G bad ∧ s.get [false, false, false] = .ptr (H.plus own).size 0 2 ∧ h' = (H.plus own).plus [.cells 0 2 [xa, xr]]) := by
      have t : Tr tbl J (c11_o1) (fun s h' => s.get [] = G lot ∧ s.get [false] = G bad ∧ s.get [false, true] = .ptr h.size 0 2 ∧ h' = H) .normal (fun s h' => s.get [] = G lot ∧ s.get [false] = G bad ∧ s.get [false, false, false] = .ptr (H.plus own).size 0 2 ∧ h' = (H.plus own).plus [.cells 0 2 [xa, xr]]) := Tr.region fun s h hp => by
        obtain ⟨g0, g1, g2, rfl⟩ := hp
        rcases hs with ⟨b, n, v, rfl⟩ | rfl <;> rcases hs' with ⟨b', n', v', rfl⟩ | rfl <;> simp (disch := first | omega | exact getEq rfl | exact getO0 | exact Nat.le_of_ble_eq_true rfl) [c11_o1, came_some, goI, List.getElem?_cons_zero, List.getElem?_cons_succ, kn, keep, app_growP, app_noneP, plus_N, plus_at0, put_plus0, upd_N, upd_size, putAt, AV.cells, fillA, loadA, takeA, mk, Eff.isAll, Eff.isNone, Eff.commutes, Eff.spares, okPair, apart, eqAgg, fits, LK.fits, allEq, aveq, eqk, mmA, beqT, wrapI, idxI, tdivI, tmodI, decT, decF, ibT, ibF, inT, inF, evScope_c, if_pos, if_neg, g0, g1, g2, f5, k, hne]
      exact t
    exact t
theorem w11_2 (J : CallF) {e : Int} {u v p q : Int} {g : Int} (H : Heap) (f7 : H.get b7 = .cells 0 2 [xa, xr]) (k33 : J 33 [G lot, .agg [xa, xr]] H = some (G e, [], false)) (k34 : J 34 [G lot, G bad, .agg [xa, xr]] H = some (.tup [.agg [G u, G v], .agg [G p, G q], G g], [], false)) :
    Tr tbl J (.seq c11_o2 c11_o3) (fun s h => s.get [] = G lot ∧ s.get [false] = G bad ∧ s.get [false, false, false] = .ptr b7 0 2 ∧ h = H) .normal (fun s h => s.get [] = G lot ∧ s.get [false] = G bad ∧ s.get [false, false, false] = .ptr b7 0 2 ∧ s.get [true, false, false] = G e ∧ s.get [false, true, false] = .ptr H.size 0 2 ∧ s.get [true, true, false] = .ptr (H.size + 1) 0 2 ∧ s.get [false, false, true] = G g ∧ h = (H.plus [.cells 0 2 [G u, G v]]).plus [.cells 0 2 [G p, G q]]) := by
  have hs : ∀ X : AObj, (H.plus [X]).size = H.size + 1 := fun X => by rw [plus_size]; rfl
  have t : Tr tbl J ((.seq c11_o2 c11_o3)) (fun s h => s.get [] = G lot ∧ s.get [false] = G bad ∧ s.get [false, false, false] = .ptr b7 0 2 ∧ h = H) .normal (fun s h => s.get [] = G lot ∧ s.get [false] = G bad ∧ s.get [false, false, false] = .ptr b7 0 2 ∧ s.get [true, false, false] = G e ∧ s.get [false, true, false] = .ptr H.size 0 2 ∧ s.get [true, true, false] = .ptr (H.size + 1) 0 2 ∧ s.get [false, false, true] = G g ∧ h = (H.plus [.cells 0 2 [G u, G v]]).plus [.cells 0 2 [G p, G q]]) := Tr.region fun s h hp => by
    obtain ⟨g0, g1, g2, rfl⟩ := hp
    simp (disch := first | omega | exact getEq rfl | exact getO0 | exact Nat.le_of_ble_eq_true rfl) [c11_o2, c11_o3, came_some, goI, List.getElem?_cons_zero, List.getElem?_cons_succ, kn, keep, app_growP, app_noneP, plus_N, plus_at0, put_plus0, upd_N, upd_size, putAt, AV.cells, fillA, loadA, takeA, mk, Eff.isAll, Eff.isNone, Eff.commutes, Eff.spares, okPair, apart, eqAgg, fits, LK.fits, allEq, aveq, eqk, mmA, beqT, wrapI, idxI, tdivI, tmodI, decT, decF, ibT, ibF, inT, inF, evScope_c, if_pos, if_neg, g0, g1, g2, f7, k33, k34, hs, put_two, put_two1]
  exact t
/-- Both lists are none. -/
theorem w11_4n (J : CallF) {e : Int} {x9 x10 x11 : AV} (H : Heap) (f7 : H.get b7 = .cells 0 2 [xa, xr]) (k39 : J 39 [G lot, G bad, .agg [xa, xr]] H = some (.tup [.nils, .nils, G 2], [], false)) :
    Tr tbl J c11_o4 (fun s h => s.get [] = G lot ∧ s.get [false] = G bad ∧ s.get [false, false, false] = .ptr b7 0 2 ∧ s.get [true, false, false] = G e ∧ s.get [false, true, false] = x9 ∧ s.get [true, true, false] = x10 ∧ s.get [false, false, true] = x11 ∧ h = H) .normal (fun s h => s.get [] = G lot ∧ s.get [false] = G bad ∧ s.get [false, false, false] = .ptr b7 0 2 ∧ s.get [true, false, false] = G e ∧ s.get [false, true, false] = x9 ∧ s.get [true, true, false] = x10 ∧ s.get [false, false, true] = x11 ∧ s.get [true, false, true] = .nils ∧ s.get [false, true, true] = .nils ∧ s.get [true, true, true] = G 2 ∧ h = H) := by
  have t : Tr tbl J (c11_o4) (fun s h => s.get [] = G lot ∧ s.get [false] = G bad ∧ s.get [false, false, false] = .ptr b7 0 2 ∧ s.get [true, false, false] = G e ∧ s.get [false, true, false] = x9 ∧ s.get [true, true, false] = x10 ∧ s.get [false, false, true] = x11 ∧ h = H) .normal (fun s h => s.get [] = G lot ∧ s.get [false] = G bad ∧ s.get [false, false, false] = .ptr b7 0 2 ∧ s.get [true, false, false] = G e ∧ s.get [false, true, false] = x9 ∧ s.get [true, true, false] = x10 ∧ s.get [false, false, true] = x11 ∧ s.get [true, false, true] = .nils ∧ s.get [false, true, true] = .nils ∧ s.get [true, true, true] = G 2 ∧ h = H) := Tr.region fun s h hp => by
    obtain ⟨g0, g1, g2, g3, g4, g5, g6, rfl⟩ := hp
    simp (disch := first | omega | exact getEq rfl | exact getO0 | exact Nat.le_of_ble_eq_true rfl) [c11_o4, came_some, goI, List.getElem?_cons_zero, List.getElem?_cons_succ, kn, keep, app_growP, app_noneP, plus_N, plus_at0, put_plus0, upd_N, upd_size, putAt, AV.cells, fillA, loadA, takeA, mk, Eff.isAll, Eff.isNone, Eff.commutes, Eff.spares, okPair, apart, eqAgg, fits, LK.fits, allEq, aveq, eqk, mmA, beqT, wrapI, idxI, tdivI, tmodI, decT, decF, ibT, ibF, inT, inF, evScope_c, if_pos, if_neg, g0, g1, g2, g3, g4, g5, g6, f7, k39]
  exact t
theorem w11_4 (J : CallF) {e : Int} {ba br v1 v2 : Nat} {x9 x10 x11 : AV} {own : List AObj} (H : Heap) (f7 : H.get b7 = .cells 0 2 [xa, xr]) (k39 : J 39 [G lot, G bad, .agg [xa, xr]] H = some (.tup [.slice ba 0 n v1, .slice br 0 n v2, G 0], own, false)) (hne : own ≠ []) :
    Tr tbl J c11_o4 (fun s h => s.get [] = G lot ∧ s.get [false] = G bad ∧ s.get [false, false, false] = .ptr b7 0 2 ∧ s.get [true, false, false] = G e ∧ s.get [false, true, false] = x9 ∧ s.get [true, true, false] = x10 ∧ s.get [false, false, true] = x11 ∧ h = H) .normal (fun s h => s.get [] = G lot ∧ s.get [false] = G bad ∧ s.get [false, false, false] = .ptr b7 0 2 ∧ s.get [true, false, false] = G e ∧ s.get [false, true, false] = x9 ∧ s.get [true, true, false] = x10 ∧ s.get [false, false, true] = x11 ∧ s.get [true, false, true] = .slice ba 0 n v1 ∧ s.get [false, true, true] = .slice br 0 n v2 ∧ s.get [true, true, true] = G 0 ∧ h = H.plus own) := by
  have t : Tr tbl J (c11_o4) (fun s h => s.get [] = G lot ∧ s.get [false] = G bad ∧ s.get [false, false, false] = .ptr b7 0 2 ∧ s.get [true, false, false] = G e ∧ s.get [false, true, false] = x9 ∧ s.get [true, true, false] = x10 ∧ s.get [false, false, true] = x11 ∧ h = H) .normal (fun s h => s.get [] = G lot ∧ s.get [false] = G bad ∧ s.get [false, false, false] = .ptr b7 0 2 ∧ s.get [true, false, false] = G e ∧ s.get [false, true, false] = x9 ∧ s.get [true, true, false] = x10 ∧ s.get [false, false, true] = x11 ∧ s.get [true, false, true] = .slice ba 0 n v1 ∧ s.get [false, true, true] = .slice br 0 n v2 ∧ s.get [true, true, true] = G 0 ∧ h = H.plus own) := Tr.region fun s h hp => by
    obtain ⟨g0, g1, g2, g3, g4, g5, g6, rfl⟩ := hp
    simp (disch := first | omega | exact getEq rfl | exact getO0 | exact Nat.le_of_ble_eq_true rfl) [c11_o4, came_some, goI, List.getElem?_cons_zero, List.getElem?_cons_succ, kn, keep, app_growP, app_noneP, plus_N, plus_at0, put_plus0, upd_N, upd_size, putAt, AV.cells, fillA, loadA, takeA, mk, Eff.isAll, Eff.isNone, Eff.commutes, Eff.spares, okPair, apart, eqAgg, fits, LK.fits, allEq, aveq, eqk, mmA, beqT, wrapI, idxI, tdivI, tmodI, decT, decF, ibT, ibF, inT, inF, evScope_c, if_pos, if_neg, g0, g1, g2, g3, g4, g5, g6, f7, k39, hne]
  exact t
/-- Is the course one of the lot? -/
theorem w11_5 (J : CallF) {x8 x9 x10 x11 x12 x13 x14 : AV} (V : Bool) (H : Heap) (f7 : H.get b7 = .cells 0 2 [xa, xr]) (hV : (lot < 1 ∧ V = false) ∨ (1 ≤ lot ∧ 36 < lot ∧ V = false) ∨ (1 ≤ lot ∧ lot ≤ 36 ∧ J 40 [G lot, .agg [xa, xr]] H = some (.bool V, [], false))) :
    Tr tbl J c11_o5 (fun s h => s.get [] = G lot ∧ s.get [false] = G bad ∧ s.get [false, false, false] = .ptr b7 0 2 ∧ s.get [true, false, false] = x8 ∧ s.get [false, true, false] = x9 ∧ s.get [true, true, false] = x10 ∧ s.get [false, false, true] = x11 ∧ s.get [true, false, true] = x12 ∧ s.get [false, true, true] = x13 ∧ s.get [true, true, true] = x14 ∧ h = H) .normal (fun s h => s.get [] = G lot ∧ s.get [false] = G bad ∧ s.get [false, false, false] = .ptr b7 0 2 ∧ s.get [true, false, false] = x8 ∧ s.get [false, true, false] = x9 ∧ s.get [true, true, false] = x10 ∧ s.get [false, false, true] = x11 ∧ s.get [true, false, true] = x12 ∧ s.get [false, true, true] = x13 ∧ s.get [true, true, true] = x14 ∧ s.get [false, false, false, false] = .bool V ∧ h = H) := by
  rcases hV with ⟨h1, rfl⟩ | ⟨h1, h2, rfl⟩ | ⟨h1, h2, h3⟩
  ·
    have t : Tr tbl J (c11_o5) (fun s h => s.get [] = G lot ∧ s.get [false] = G bad ∧ s.get [false, false, false] = .ptr b7 0 2 ∧ s.get [true, false, false] = x8 ∧ s.get [false, true, false] = x9 ∧ s.get [true, true, false] = x10 ∧ s.get [false, false, true] = x11 ∧ s.get [true, false, true] = x12 ∧ s.get [false, true, true] = x13 ∧ s.get [true, true, true] = x14 ∧ h = H) .normal (fun s h => s.get [] = G lot ∧ s.get [false] = G bad ∧ s.get [false, false, false] = .ptr b7 0 2 ∧ s.get [true, false, false] = x8 ∧ s.get [false, true, false] = x9 ∧ s.get [true, true, false] = x10 ∧ s.get [false, false, true] = x11 ∧ s.get [true, false, true] = x12 ∧ s.get [false, true, true] = x13 ∧ s.get [true, true, true] = x14 ∧ s.get [false, false, false, false] = .bool false ∧ h = H) := Tr.region fun s h hp => by
      obtain ⟨g0, g1, g2, g3, g4, g5, g6, g7, g8, g9, rfl⟩ := hp
      simp (disch := first | omega | exact getEq rfl | exact getO0 | exact Nat.le_of_ble_eq_true rfl) [c11_o5, came_some, goI, List.getElem?_cons_zero, List.getElem?_cons_succ, kn, keep, app_growP, app_noneP, plus_N, plus_at0, put_plus0, upd_N, upd_size, putAt, AV.cells, fillA, loadA, takeA, mk, Eff.isAll, Eff.isNone, Eff.commutes, Eff.spares, okPair, apart, eqAgg, fits, LK.fits, allEq, aveq, eqk, mmA, beqT, wrapI, idxI, tdivI, tmodI, decT, decF, ibT, ibF, inT, inF, evScope_c, if_pos, if_neg, g0, g1, g2, g3, g4, g5, g6, g7, g8, g9]
    exact t
  ·
    have t : Tr tbl J (c11_o5) (fun s h => s.get [] = G lot ∧ s.get [false] = G bad ∧ s.get [false, false, false] = .ptr b7 0 2 ∧ s.get [true, false, false] = x8 ∧ s.get [false, true, false] = x9 ∧ s.get [true, true, false] = x10 ∧ s.get [false, false, true] = x11 ∧ s.get [true, false, true] = x12 ∧ s.get [false, true, true] = x13 ∧ s.get [true, true, true] = x14 ∧ h = H) .normal (fun s h => s.get [] = G lot ∧ s.get [false] = G bad ∧ s.get [false, false, false] = .ptr b7 0 2 ∧ s.get [true, false, false] = x8 ∧ s.get [false, true, false] = x9 ∧ s.get [true, true, false] = x10 ∧ s.get [false, false, true] = x11 ∧ s.get [true, false, true] = x12 ∧ s.get [false, true, true] = x13 ∧ s.get [true, true, true] = x14 ∧ s.get [false, false, false, false] = .bool false ∧ h = H) := Tr.region fun s h hp => by
      obtain ⟨g0, g1, g2, g3, g4, g5, g6, g7, g8, g9, rfl⟩ := hp
      simp (disch := first | omega | exact getEq rfl | exact getO0 | exact Nat.le_of_ble_eq_true rfl) [c11_o5, came_some, goI, List.getElem?_cons_zero, List.getElem?_cons_succ, kn, keep, app_growP, app_noneP, plus_N, plus_at0, put_plus0, upd_N, upd_size, putAt, AV.cells, fillA, loadA, takeA, mk, Eff.isAll, Eff.isNone, Eff.commutes, Eff.spares, okPair, apart, eqAgg, fits, LK.fits, allEq, aveq, eqk, mmA, beqT, wrapI, idxI, tdivI, tmodI, decT, decF, ibT, ibF, inT, inF, evScope_c, if_pos, if_neg, g0, g1, g2, g3, g4, g5, g6, g7, g8, g9]
    exact t
  ·
    have t : Tr tbl J (c11_o5) (fun s h => s.get [] = G lot ∧ s.get [false] = G bad ∧ s.get [false, false, false] = .ptr b7 0 2 ∧ s.get [true, false, false] = x8 ∧ s.get [false, true, false] = x9 ∧ s.get [true, true, false] = x10 ∧ s.get [false, false, true] = x11 ∧ s.get [true, false, true] = x12 ∧ s.get [false, true, true] = x13 ∧ s.get [true, true, true] = x14 ∧ h = H) .normal (fun s h => s.get [] = G lot ∧ s.get [false] = G bad ∧ s.get [false, false, false] = .ptr b7 0 2 ∧ s.get [true, false, false] = x8 ∧ s.get [false, true, false] = x9 ∧ s.get [true, true, false] = x10 ∧ s.get [false, false, true] = x11 ∧ s.get [true, false, true] = x12 ∧ s.get [false, true, true] = x13 ∧ s.get [true, true, true] = x14 ∧ s.get [false, false, false, false] = .bool V ∧ h = H) := Tr.region fun s h hp => by
      obtain ⟨g0, g1, g2, g3, g4, g5, g6, g7, g8, g9, rfl⟩ := hp
      simp (disch := first | omega | exact getEq rfl | exact getO0 | exact Nat.le_of_ble_eq_true rfl) [c11_o5, came_some, goI, List.getElem?_cons_zero, List.getElem?_cons_succ, kn, keep, app_growP, app_noneP, plus_N, plus_at0, put_plus0, upd_N, upd_size, putAt, AV.cells, fillA, loadA, takeA, mk, Eff.isAll, Eff.isNone, Eff.commutes, Eff.spares, okPair, apart, eqAgg, fits, LK.fits, allEq, aveq, eqk, mmA, beqT, wrapI, idxI, tdivI, tmodI, decT, decF, ibT, ibF, inT, inF, evScope_c, if_pos, if_neg, g0, g1, g2, g3, g4, g5, g6, g7, g8, g9, f7, h3]
    exact t
theorem w11_6 (J : CallF) {x9 x10 x11 x12 x13 x14 : AV} (V : Bool) (H : Heap) :
    Tr tbl J (.seq c11_o6 (.cond (.s [false, true, false, false, false, false]) (.seq c11_o7 .ret) .skip)) (fun s h => s.get [] = G lot ∧ s.get [false] = G bad ∧ s.get [false, false, false] = .ptr b7 0 2 ∧ s.get [true, false, false] = G (if V then 0 else 2) ∧ s.get [false, true, false] = x9 ∧ s.get [true, true, false] = x10 ∧ s.get [false, false, true] = x11 ∧ s.get [true, false, true] = x12 ∧ s.get [false, true, true] = x13 ∧ s.get [true, true, true] = x14 ∧ s.get [false, false, false, false] = .bool V ∧ h = H) .normal (fun s h => s.get [] = G lot ∧ s.get [false] = G bad ∧ s.get [false, false, false] = .ptr b7 0 2 ∧ s.get [false, true, false] = x9 ∧ s.get [true, true, false] = x10 ∧ s.get [false, false, true] = x11 ∧ s.get [true, false, true] = x12 ∧ s.get [false, true, true] = x13 ∧ s.get [true, true, true] = x14 ∧ s.get [false, false, false, false] = .bool V ∧ h = H) := by
  cases V
  ·
    have t : Tr tbl J ((.seq c11_o6 (.cond (.s [false, true, false, false, false, false]) (.seq c11_o7 .ret) .skip))) (fun s h => s.get [] = G lot ∧ s.get [false] = G bad ∧ s.get [false, false, false] = .ptr b7 0 2 ∧ s.get [true, false, false] = G 2 ∧ s.get [false, true, false] = x9 ∧ s.get [true, true, false] = x10 ∧ s.get [false, false, true] = x11 ∧ s.get [true, false, true] = x12 ∧ s.get [false, true, true] = x13 ∧ s.get [true, true, true] = x14 ∧ s.get [false, false, false, false] = .bool false ∧ h = H) .normal (fun s h => s.get [] = G lot ∧ s.get [false] = G bad ∧ s.get [false, false, false] = .ptr b7 0 2 ∧ s.get [false, true, false] = x9 ∧ s.get [true, true, false] = x10 ∧ s.get [false, false, true] = x11 ∧ s.get [true, false, true] = x12 ∧ s.get [false, true, true] = x13 ∧ s.get [true, true, true] = x14 ∧ s.get [false, false, false, false] = .bool false ∧ h = H) := Tr.region fun s h hp => by
      obtain ⟨g0, g1, g2, g3, g4, g5, g6, g7, g8, g9, g10, rfl⟩ := hp
      simp (disch := first | omega | exact getEq rfl | exact getO0 | exact Nat.le_of_ble_eq_true rfl) [c11_o6, came_some, goI, List.getElem?_cons_zero, List.getElem?_cons_succ, kn, keep, app_growP, app_noneP, plus_N, plus_at0, put_plus0, upd_N, upd_size, putAt, AV.cells, fillA, loadA, takeA, mk, Eff.isAll, Eff.isNone, Eff.commutes, Eff.spares, okPair, apart, eqAgg, fits, LK.fits, allEq, aveq, eqk, mmA, beqT, wrapI, idxI, tdivI, tmodI, decT, decF, ibT, ibF, inT, inF, evScope_c, if_pos, if_neg, g0, g1, g2, g3, g4, g5, g6, g7, g8, g9, g10]
    exact t
  ·
    have t : Tr tbl J ((.seq c11_o6 (.cond (.s [false, true, false, false, false, false]) (.seq c11_o7 .ret) .skip))) (fun s h => s.get [] = G lot ∧ s.get [false] = G bad ∧ s.get [false, false, false] = .ptr b7 0 2 ∧ s.get [true, false, false] = G 0 ∧ s.get [false, true, false] = x9 ∧ s.get [true, true, false] = x10 ∧ s.get [false, false, true] = x11 ∧ s.get [true, false, true] = x12 ∧ s.get [false, true, true] = x13 ∧ s.get [true, true, true] = x14 ∧ s.get [false, false, false, false] = .bool true ∧ h = H) .normal (fun s h => s.get [] = G lot ∧ s.get [false] = G bad ∧ s.get [false, false, false] = .ptr b7 0 2 ∧ s.get [false, true, false] = x9 ∧ s.get [true, true, false] = x10 ∧ s.get [false, false, true] = x11 ∧ s.get [true, false, true] = x12 ∧ s.get [false, true, true] = x13 ∧ s.get [true, true, true] = x14 ∧ s.get [false, false, false, false] = .bool true ∧ h = H) := Tr.region fun s h hp => by
      obtain ⟨g0, g1, g2, g3, g4, g5, g6, g7, g8, g9, g10, rfl⟩ := hp
      simp (disch := first | omega | exact getEq rfl | exact getO0 | exact Nat.le_of_ble_eq_true rfl) [c11_o6, came_some, goI, List.getElem?_cons_zero, List.getElem?_cons_succ, kn, keep, app_growP, app_noneP, plus_N, plus_at0, put_plus0, upd_N, upd_size, putAt, AV.cells, fillA, loadA, takeA, mk, Eff.isAll, Eff.isNone, Eff.commutes, Eff.spares, okPair, apart, eqAgg, fits, LK.fits, allEq, aveq, eqk, mmA, beqT, wrapI, idxI, tdivI, tmodI, decT, decF, ibT, ibF, inT, inF, evScope_c, if_pos, if_neg, g0, g1, g2, g3, g4, g5, g6, g7, g8, g9, g10]
    exact t
/-- It is not, or the number of bad pieces is none of the lot's. -/
theorem w11_8n (J : CallF) (K : Kn J) {b9 b10 : Nat} (V : Bool) (H : Heap) (hV : V = false ∨ (V = true ∧ ¬ lotOk lot bad)) (f9 : H.get b9 = .cells 0 2 [G 0, G 0]) (f10 : H.get b10 = .cells 0 2 [G 0, G 0]) :
    Tr tbl J (.seq c11_o8 (.cond (.s [false, true, false, true, false, false]) (.seq c11_o9 .ret) .skip)) (fun s h => s.get [] = G lot ∧ s.get [false] = G bad ∧ s.get [false, false, false] = .ptr b7 0 2 ∧ s.get [false, true, false] = .ptr b9 0 2 ∧ s.get [true, true, false] = .ptr b10 0 2 ∧ s.get [false, false, true] = G 2 ∧ s.get [true, false, true] = .nils ∧ s.get [false, true, true] = .nils ∧ s.get [true, true, true] = G 2 ∧ s.get [false, false, false, false] = .bool V ∧ h = H) .ret (fun s h => s.get [true, true] = .bool true) := by
  rcases hV with rfl | ⟨rfl, h2⟩
  ·
    have t : Tr tbl J ((.seq c11_o8 (.cond (.s [false, true, false, true, false, false]) (.seq c11_o9 .ret) .skip))) (fun s h => s.get [] = G lot ∧ s.get [false] = G bad ∧ s.get [false, false, false] = .ptr b7 0 2 ∧ s.get [false, true, false] = .ptr b9 0 2 ∧ s.get [true, true, false] = .ptr b10 0 2 ∧ s.get [false, false, true] = G 2 ∧ s.get [true, false, true] = .nils ∧ s.get [false, true, true] = .nils ∧ s.get [true, true, true] = G 2 ∧ s.get [false, false, false, false] = .bool false ∧ h = H) .ret (fun s h => s.get [true, true] = .bool true) := Tr.region fun s h hp => by
      obtain ⟨g0, g1, g2, g3, g4, g5, g6, g7, g8, g9, rfl⟩ := hp
      simp (disch := first | omega | exact getEq rfl | exact getO0 | exact Nat.le_of_ble_eq_true rfl) [c11_o8, c11_o9, came_some, goI, List.getElem?_cons_zero, List.getElem?_cons_succ, kn, keep, app_growP, app_noneP, plus_N, plus_at0, put_plus0, upd_N, upd_size, putAt, AV.cells, fillA, loadA, takeA, mk, Eff.isAll, Eff.isNone, Eff.commutes, Eff.spares, okPair, apart, eqAgg, fits, LK.fits, allEq, aveq, eqk, mmA, beqT, wrapI, idxI, tdivI, tmodI, decT, decF, ibT, ibF, inT, inF, evScope_c, if_pos, if_neg, g0, g1, g2, g3, g4, g5, g6, g7, g8, g9, f9, f10, K.k20]
    exact t
  ·
    have t : Tr tbl J ((.seq c11_o8 (.cond (.s [false, true, false, true, false, false]) (.seq c11_o9 .ret) .skip))) (fun s h => s.get [] = G lot ∧ s.get [false] = G bad ∧ s.get [false, false, false] = .ptr b7 0 2 ∧ s.get [false, true, false] = .ptr b9 0 2 ∧ s.get [true, true, false] = .ptr b10 0 2 ∧ s.get [false, false, true] = G 2 ∧ s.get [true, false, true] = .nils ∧ s.get [false, true, true] = .nils ∧ s.get [true, true, true] = G 2 ∧ s.get [false, false, false, false] = .bool true ∧ h = H) .ret (fun s h => s.get [true, true] = .bool true) := Tr.region fun s h hp => by
      obtain ⟨g0, g1, g2, g3, g4, g5, g6, g7, g8, g9, rfl⟩ := hp
      simp (disch := first | omega | exact getEq rfl | exact getO0 | exact Nat.le_of_ble_eq_true rfl) [c11_o8, c11_o9, came_some, goI, List.getElem?_cons_zero, List.getElem?_cons_succ, kn, keep, app_growP, app_noneP, plus_N, plus_at0, put_plus0, upd_N, upd_size, putAt, AV.cells, fillA, loadA, takeA, mk, Eff.isAll, Eff.isNone, Eff.commutes, Eff.spares, okPair, apart, eqAgg, fits, LK.fits, allEq, aveq, eqk, mmA, beqT, wrapI, idxI, tdivI, tmodI, decT, decF, ibT, ibF, inT, inF, evScope_c, if_pos, if_neg, g0, g1, g2, g3, g4, g5, g6, g7, g8, g9, f9, f10, K.k18, h2, K.k20]
    exact t
theorem w11_8 (J : CallF) (K : Kn J) {x9 x10 x11 x12 x13 x14 : AV} (H : Heap) (hl : lotOk lot bad) (hZ : ofZ lot bad = Z) :
    Tr tbl J (.seq (.seq c11_o8 (.cond (.s [false, true, false, true, false, false]) (.seq c11_o9 .ret) .skip)) c11_o10) (fun s h => s.get [] = G lot ∧ s.get [false] = G bad ∧ s.get [false, false, false] = .ptr b7 0 2 ∧ s.get [false, true, false] = x9 ∧ s.get [true, true, false] = x10 ∧ s.get [false, false, true] = x11 ∧ s.get [true, false, true] = x12 ∧ s.get [false, true, true] = x13 ∧ s.get [true, true, true] = x14 ∧ s.get [false, false, false, false] = .bool true ∧ h = H) .normal (fun s h => s.get [] = G lot ∧ s.get [false] = G bad ∧ s.get [false, false, false] = .ptr b7 0 2 ∧ s.get [false, true, false] = x9 ∧ s.get [true, true, false] = x10 ∧ s.get [false, false, true] = x11 ∧ s.get [true, false, true] = x12 ∧ s.get [false, true, true] = x13 ∧ s.get [true, true, true] = x14 ∧ s.get [true, false, false, false] = G Z ∧ h = H) := by
  have k29 := fun h => K.k29 h lot bad hl.1.2
  rw [hZ] at k29
  have t : Tr tbl J ((.seq (.seq c11_o8 (.cond (.s [false, true, false, true, false, false]) (.seq c11_o9 .ret) .skip)) c11_o10)) (fun s h => s.get [] = G lot ∧ s.get [false] = G bad ∧ s.get [false, false, false] = .ptr b7 0 2 ∧ s.get [false, true, false] = x9 ∧ s.get [true, true, false] = x10 ∧ s.get [false, false, true] = x11 ∧ s.get [true, false, true] = x12 ∧ s.get [false, true, true] = x13 ∧ s.get [true, true, true] = x14 ∧ s.get [false, false, false, false] = .bool true ∧ h = H) .normal (fun s h => s.get [] = G lot ∧ s.get [false] = G bad ∧ s.get [false, false, false] = .ptr b7 0 2 ∧ s.get [false, true, false] = x9 ∧ s.get [true, true, false] = x10 ∧ s.get [false, false, true] = x11 ∧ s.get [true, false, true] = x12 ∧ s.get [false, true, true] = x13 ∧ s.get [true, true, true] = x14 ∧ s.get [true, false, false, false] = G Z ∧ h = H) := Tr.region fun s h hp => by
    obtain ⟨g0, g1, g2, g3, g4, g5, g6, g7, g8, g9, rfl⟩ := hp
    simp (disch := first | omega | exact getEq rfl | exact getO0 | exact Nat.le_of_ble_eq_true rfl) [c11_o8, c11_o10, came_some, goI, List.getElem?_cons_zero, List.getElem?_cons_succ, kn, keep, app_growP, app_noneP, plus_N, plus_at0, put_plus0, upd_N, upd_size, putAt, AV.cells, fillA, loadA, takeA, mk, Eff.isAll, Eff.isNone, Eff.commutes, Eff.spares, okPair, apart, eqAgg, fits, LK.fits, allEq, aveq, eqk, mmA, beqT, wrapI, idxI, tdivI, tmodI, decT, decF, ibT, ibF, inT, inF, evScope_c, if_pos, if_neg, g0, g1, g2, g3, g4, g5, g6, g7, g8, g9, K.k18, hl, k29]
  exact t
theorem w11_11 (J : CallF) {x9 x10 x11 x12 x13 x14 x16 : AV} {y1 y3 ba br va vr : Nat} {own : List AObj} (H : Heap) (f7 : H.get b7 = .cells 0 2 [xa, xr]) (k41 : J 41 [G lot, G bad, .agg [xa, xr]] H = some (.tup [G y1, G y3], [], false)) (k42 : J 42 [G lot, G bad, .agg [xa, xr]] H = some (.tup [.slice ba 0 n va, .slice br 0 n vr], own, false)) (hne : own ≠ []) :
    Tr tbl J (.seq c11_o11 c11_o12) (fun s h => s.get [] = G lot ∧ s.get [false] = G bad ∧ s.get [false, false, false] = .ptr b7 0 2 ∧ s.get [false, true, false] = x9 ∧ s.get [true, true, false] = x10 ∧ s.get [false, false, true] = x11 ∧ s.get [true, false, true] = x12 ∧ s.get [false, true, true] = x13 ∧ s.get [true, true, true] = x14 ∧ s.get [true, false, false, false] = x16 ∧ h = H) .normal (fun s h => s.get [false, true, false] = x9 ∧ s.get [true, true, false] = x10 ∧ s.get [false, false, true] = x11 ∧ s.get [true, false, true] = x12 ∧ s.get [false, true, true] = x13 ∧ s.get [true, true, true] = x14 ∧ s.get [true, false, false, false] = x16 ∧ s.get [false, true, false, false] = G y1 ∧ s.get [true, true, false, false] = G y3 ∧ s.get [false, false, true, false] = .slice ba 0 n va ∧ s.get [true, false, true, false] = .slice br 0 n vr ∧ h = H.plus own) := by
  have t : Tr tbl J ((.seq c11_o11 c11_o12)) (fun s h => s.get [] = G lot ∧ s.get [false] = G bad ∧ s.get [false, false, false] = .ptr b7 0 2 ∧ s.get [false, true, false] = x9 ∧ s.get [true, true, false] = x10 ∧ s.get [false, false, true] = x11 ∧ s.get [true, false, true] = x12 ∧ s.get [false, true, true] = x13 ∧ s.get [true, true, true] = x14 ∧ s.get [true, false, false, false] = x16 ∧ h = H) .normal (fun s h => s.get [false, true, false] = x9 ∧ s.get [true, true, false] = x10 ∧ s.get [false, false, true] = x11 ∧ s.get [true, false, true] = x12 ∧ s.get [false, true, true] = x13 ∧ s.get [true, true, true] = x14 ∧ s.get [true, false, false, false] = x16 ∧ s.get [false, true, false, false] = G y1 ∧ s.get [true, true, false, false] = G y3 ∧ s.get [false, false, true, false] = .slice ba 0 n va ∧ s.get [true, false, true, false] = .slice br 0 n vr ∧ h = H.plus own) := Tr.region fun s h hp => by
    obtain ⟨g0, g1, g2, g3, g4, g5, g6, g7, g8, g9, rfl⟩ := hp
    simp (disch := first | omega | exact getEq rfl | exact getO0 | exact Nat.le_of_ble_eq_true rfl) [c11_o11, c11_o12, came_some, goI, List.getElem?_cons_zero, List.getElem?_cons_succ, kn, keep, app_growP, app_noneP, plus_N, plus_at0, put_plus0, upd_N, upd_size, putAt, AV.cells, fillA, loadA, takeA, mk, Eff.isAll, Eff.isNone, Eff.commutes, Eff.spares, okPair, apart, eqAgg, fits, LK.fits, allEq, aveq, eqk, mmA, beqT, wrapI, idxI, tdivI, tmodI, decT, decF, ibT, ibF, inT, inF, evScope_c, if_pos, if_neg, g0, g1, g2, g3, g4, g5, g6, g7, g8, g9, f7, k41, k42, hne]
  exact t
theorem w11_13 (J : CallF) (K : Kn J) {b9 b10 y1 y3 ba br v1 v2 ca cr w1 w2 : Nat} {u v p q : Int} (H : Heap) (f9 : H.get b9 = .cells 0 2 [G u, G v]) (f10 : H.get b10 = .cells 0 2 [G p, G q]) (hZ : 1 ≤ Z ∧ Z ≤ 1099511627776) (h1 : y1 ≤ 1000000000000000) (h3 : y3 ≤ 1000000000000000) (e1 : fr y1 Z = .agg [G u, G v]) (e2 : fr y3 Z = .agg [G p, G q]) :
    Tr tbl J (.seq c11_o13 (.cond (.s [false, true, false, true, true, false, false]) (.seq c11_o14 .ret) .skip)) (fun s h => s.get [false, true, false] = .ptr b9 0 2 ∧ s.get [true, true, false] = .ptr b10 0 2 ∧ s.get [false, false, true] = G 0 ∧ s.get [true, false, true] = .slice ba 0 n v1 ∧ s.get [false, true, true] = .slice br 0 n v2 ∧ s.get [true, true, true] = G 0 ∧ s.get [true, false, false, false] = G Z ∧ s.get [false, true, false, false] = G y1 ∧ s.get [true, true, false, false] = G y3 ∧ s.get [false, false, true, false] = .slice ca 0 n w1 ∧ s.get [true, false, true, false] = .slice cr 0 n w2 ∧ h = H) .normal (fun s h => s.get [true, false, true] = .slice ba 0 n v1 ∧ s.get [false, true, true] = .slice br 0 n v2 ∧ s.get [true, false, false, false] = G Z ∧ s.get [false, false, true, false] = .slice ca 0 n w1 ∧ s.get [true, false, true, false] = .slice cr 0 n w2 ∧ h = H) := by
  have t : Tr tbl J ((.seq c11_o13 (.cond (.s [false, true, false, true, true, false, false]) (.seq c11_o14 .ret) .skip))) (fun s h => s.get [false, true, false] = .ptr b9 0 2 ∧ s.get [true, true, false] = .ptr b10 0 2 ∧ s.get [false, false, true] = G 0 ∧ s.get [true, false, true] = .slice ba 0 n v1 ∧ s.get [false, true, true] = .slice br 0 n v2 ∧ s.get [true, true, true] = G 0 ∧ s.get [true, false, false, false] = G Z ∧ s.get [false, true, false, false] = G y1 ∧ s.get [true, true, false, false] = G y3 ∧ s.get [false, false, true, false] = .slice ca 0 n w1 ∧ s.get [true, false, true, false] = .slice cr 0 n w2 ∧ h = H) .normal (fun s h => s.get [true, false, true] = .slice ba 0 n v1 ∧ s.get [false, true, true] = .slice br 0 n v2 ∧ s.get [true, false, false, false] = G Z ∧ s.get [false, false, true, false] = .slice ca 0 n w1 ∧ s.get [true, false, true, false] = .slice cr 0 n w2 ∧ h = H) := Tr.region fun s h hp => by
    obtain ⟨g0, g1, g2, g3, g4, g5, g6, g7, g8, g9, g10, rfl⟩ := hp
    simp (disch := first | omega | exact getEq rfl | exact getO0 | exact Nat.le_of_ble_eq_true rfl) [-evDraw_c, c11_o13, came_some, goI, List.getElem?_cons_zero, List.getElem?_cons_succ, kn, keep, app_growP, app_noneP, plus_N, plus_at0, put_plus0, upd_N, upd_size, putAt, AV.cells, fillA, loadA, takeA, mk, Eff.isAll, Eff.isNone, Eff.commutes, Eff.spares, okPair, apart, eqAgg, fits, LK.fits, allEq, aveq, eqk, mmA, beqT, wrapI, idxI, tdivI, tmodI, decT, decF, ibT, ibF, inT, inF, evScope_c, if_pos, if_neg, g0, g1, g2, g3, g4, g5, g6, g7, g8, g9, g10, Go.Proofs.Ytlkgpcfhpeilhaa.Ev.evDraw_0, f9, f10, K.k25, e1, e2]
  exact t
abbrev L11 : List Path := [[true, false, true], [false, true, true], [true, false, false, false], [false, false, true, false], [true, false, true, false], [false, true, true, false]]
theorem w11_17 (J : CallF) (K : Kn J) {ba br v1 v2 ca cr w1 w2 a b : Nat} {u v p q : Int} {c1 c2 d1 d2 : List AV} (H : Heap) (k : Nat) (hk : k < n) (hn : n ≤ 36) (fa : H.get ba = .cells 2 v1 c1) (fb : H.get br = .cells 2 v2 c2) (fc : H.get ca = .cells 1 w1 d1) (fd : H.get cr = .cells 1 w2 d2)
    (e1 : (c1.drop (k * 2)).take 2 = [G u, G v]) (e2 : (c2.drop (k * 2)).take 2 = [G p, G q]) (e3 : d1[k]? = some (G a)) (e4 : d2[k]? = some (G b)) (hZ : 1 ≤ Z ∧ Z ≤ 1099511627776) (ha : a ≤ 1000000000000000) (hb : b ≤ 1000000000000000) (q1 : fr a Z = .agg [G u, G v]) (q2 : fr b Z = .agg [G p, G q]) :
    Tr tbl J (.trim L11 c11_b0) (fun s h => s.get [true, false, true] = .slice ba 0 n v1 ∧ s.get [false, true, true] = .slice br 0 n v2 ∧ s.get [true, false, false, false] = G Z ∧ s.get [false, false, true, false] = .slice ca 0 n w1 ∧ s.get [true, false, true, false] = .slice cr 0 n w2 ∧ s.get [false, true, true, false] = G k ∧ h = H) .normal (fun s h => s.get [true, false, true] = .slice ba 0 n v1 ∧ s.get [false, true, true] = .slice br 0 n v2 ∧ s.get [true, false, false, false] = G Z ∧ s.get [false, false, true, false] = .slice ca 0 n w1 ∧ s.get [true, false, true, false] = .slice cr 0 n w2 ∧ s.get [false, true, true, false] = G ((k + 1 : Nat) : Int) ∧ h = H) := by
  have e3' : ∀ h : k < d1.length, d1[k] = G a := fun h => by rw [List.getElem?_eq_getElem h] at e3; exact Option.some.inj e3
  have e4' : ∀ h : k < d2.length, d2[k] = G b := fun h => by rw [List.getElem?_eq_getElem h] at e4; exact Option.some.inj e4
  have t : Tr tbl J ((.trim L11 c11_b0)) (fun s h => s.get [true, false, true] = .slice ba 0 n v1 ∧ s.get [false, true, true] = .slice br 0 n v2 ∧ s.get [true, false, false, false] = G Z ∧ s.get [false, false, true, false] = .slice ca 0 n w1 ∧ s.get [true, false, true, false] = .slice cr 0 n w2 ∧ s.get [false, true, true, false] = G k ∧ h = H) .normal (fun s h => s.get [true, false, true] = .slice ba 0 n v1 ∧ s.get [false, true, true] = .slice br 0 n v2 ∧ s.get [true, false, false, false] = G Z ∧ s.get [false, false, true, false] = .slice ca 0 n w1 ∧ s.get [true, false, true, false] = .slice cr 0 n w2 ∧ s.get [false, true, true, false] = G ((k + 1 : Nat) : Int) ∧ h = H) := Tr.region fun s h hp => by
    obtain ⟨g0, g1, g2, g3, g4, g5, rfl⟩ := hp
    simp (disch := first | omega | exact getEq rfl | exact getO0 | exact Nat.le_of_ble_eq_true rfl) [-evDraw_c, c11_b0, c11_o16, c11_o17, c11_o19, came_some, goI, List.getElem?_cons_zero, List.getElem?_cons_succ, kn, keep, app_growP, app_noneP, plus_N, plus_at0, put_plus0, upd_N, upd_size, putAt, AV.cells, fillA, loadA, takeA, mk, Eff.isAll, Eff.isNone, Eff.commutes, Eff.spares, okPair, apart, eqAgg, fits, LK.fits, allEq, aveq, eqk, mmA, beqT, wrapI, idxI, tdivI, tmodI, decT, decF, ibT, ibF, inT, inF, evScope_c, if_pos, if_neg, g0, g1, g2, g3, g4, g5, Go.Proofs.Ytlkgpcfhpeilhaa.Ev.evDraw_0, fa, fb, fc, fd, e1, e2, e3, e4, e3', e4', K.k25, q1, q2]
  exact t
theorem w11_loop (J : CallF) (K : Kn J) {ba br ca cr w1 w2 : Nat} {A R : Nat → Int} {d1 d2 : List AV} (H : Heap) (g : H4 lot bad n) (hZ' : ofZ lot bad = Z) (fa : H.get ba = .cells 2 (2 * n) (fz (yU lot bad A R) (yV lot bad A R) n)) (fb : H.get br = .cells 2 (2 * n) (fz (nU lot bad A R) (nV lot bad A R) n)) (fc : H.get ca = .cells 1 w1 d1) (fd : H.get cr = .cells 1 w2 d2)
    (ec : ∀ i, i < n → d1[i]? = some (G (yC lot bad A R i))) (ed : ∀ i, i < n → d2[i]? = some (G (nC lot bad A R i))) :
    Tr tbl J (.seq (.seq c11_o15 (.block 0 c11_l0)) (.seq c11_o20 .ret)) (fun s h => s.get [true, false, true] = .slice ba 0 n (2 * n) ∧ s.get [false, true, true] = .slice br 0 n (2 * n) ∧ s.get [true, false, false, false] = G Z ∧ s.get [false, false, true, false] = .slice ca 0 n w1 ∧ s.get [true, false, true, false] = .slice cr 0 n w2 ∧ h = H) .ret (fun s h => s.get [true, true] = .bool true) := by
  have n2 := g.n2
  have l2 := g.l2
  have b1 := g.b1
  have b2 := g.b2
  have z3 := ofZ_36 (lot := lot) (bad := bad) l2
  have z4 := ofZ_pos (n := lot) (k := bad) b1 b2
  rw [hZ'] at z3 z4
  obtain ⟨v1, hv1⟩ : ∃ v, 2 * n = v := ⟨_, rfl⟩
  rw [hv1] at fa fb
  rw [hv1]
  have t0 : Tr tbl J (c11_o15) (fun s h => s.get [true, false, true] = .slice ba 0 n v1 ∧ s.get [false, true, true] = .slice br 0 n v1 ∧ s.get [true, false, false, false] = G Z ∧ s.get [false, false, true, false] = .slice ca 0 n w1 ∧ s.get [true, false, true, false] = .slice cr 0 n w2 ∧ h = H) .normal (fun s h => s.get [true, false, true] = .slice ba 0 n v1 ∧ s.get [false, true, true] = .slice br 0 n v1 ∧ s.get [true, false, false, false] = G Z ∧ s.get [false, false, true, false] = .slice ca 0 n w1 ∧ s.get [true, false, true, false] = .slice cr 0 n w2 ∧ s.get [false, true, true, false] = G ((0 : Nat) : Int) ∧ h = H) := Tr.region fun s h hp => by
    obtain ⟨g0, g1, g2, g3, g4, rfl⟩ := hp
    simp (disch := first | omega | exact getEq rfl | exact getO0 | exact Nat.le_of_ble_eq_true rfl) [c11_o15, came_some, goI, List.getElem?_cons_zero, List.getElem?_cons_succ, kn, keep, app_growP, app_noneP, plus_N, plus_at0, put_plus0, upd_N, upd_size, putAt, AV.cells, fillA, loadA, takeA, mk, Eff.isAll, Eff.isNone, Eff.commutes, Eff.spares, okPair, apart, eqAgg, fits, LK.fits, allEq, aveq, eqk, mmA, beqT, wrapI, idxI, tdivI, tmodI, decT, decF, ibT, ibF, inT, inF, evScope_c, if_pos, if_neg, g0, g1, g2, g3, g4]
  have t1 : Tr tbl J ((.trim L11 c11_b0)) (fun s h => s.get [true, false, true] = .slice ba 0 n v1 ∧ s.get [false, true, true] = .slice br 0 n v1 ∧ s.get [true, false, false, false] = G Z ∧ s.get [false, false, true, false] = .slice ca 0 n w1 ∧ s.get [true, false, true, false] = .slice cr 0 n w2 ∧ s.get [false, true, true, false] = G n ∧ h = H) (.exit 0) (fun s h => True) := Tr.region fun s h hp => by
    obtain ⟨g0, g1, g2, g3, g4, g5, rfl⟩ := hp
    simp (disch := first | omega | exact getEq rfl | exact getO0 | exact Nat.le_of_ble_eq_true rfl) [c11_b0, c11_o16, came_some, goI, List.getElem?_cons_zero, List.getElem?_cons_succ, kn, keep, app_growP, app_noneP, plus_N, plus_at0, put_plus0, upd_N, upd_size, putAt, AV.cells, fillA, loadA, takeA, mk, Eff.isAll, Eff.isNone, Eff.commutes, Eff.spares, okPair, apart, eqAgg, fits, LK.fits, allEq, aveq, eqk, mmA, beqT, wrapI, idxI, tdivI, tmodI, decT, decF, ibT, ibF, inT, inF, evScope_c, if_pos, if_neg, g0, g1, g2, g3, g4, g5]
  have t20 : Tr tbl J ((.seq c11_o20 .ret)) (fun s h => True) .ret (fun s h => s.get [true, true] = .bool true) := Tr.region fun s h hp => by
    simp (disch := first | omega | exact getEq rfl | exact getO0 | exact Nat.le_of_ble_eq_true rfl) [c11_o20, came_some, goI, List.getElem?_cons_zero, List.getElem?_cons_succ, kn, keep, app_growP, app_noneP, plus_N, plus_at0, put_plus0, upd_N, upd_size, putAt, AV.cells, fillA, loadA, takeA, mk, Eff.isAll, Eff.isNone, Eff.commutes, Eff.spares, okPair, apart, eqAgg, fits, LK.fits, allEq, aveq, eqk, mmA, beqT, wrapI, idxI, tdivI, tmodI, decT, decF, ibT, ibF, inT, inF, evScope_c, if_pos, if_neg, K.k20]
  refine Tr.seq (Tr.seq t0 (Tr.block (Tr.rounds (P := fun j => (fun s h => s.get [true, false, true] = .slice ba 0 n v1 ∧ s.get [false, true, true] = .slice br 0 n v1 ∧ s.get [true, false, false, false] = G Z ∧ s.get [false, false, true, false] = .slice ca 0 n w1 ∧ s.get [true, false, true, false] = .slice cr 0 n w2 ∧ s.get [false, true, true, false] = G j ∧ h = H)) (M := n) (fun j hj => ?_) t1 (by simp) 0 (by omega)))) t20
  have k6 := yn_all (lot := lot) (bad := bad) (A := A) (R := R) j (j + 2) (by omega) b1 b2
  have k7 : yC lot bad A R j + nC lot bad A R j ≤ Z := by rw [← hZ']; exact k6
  exact w11_17 J K H j hj (by omega) fa fb fc fd (fz_at _ _ n j hj) (fz_at _ _ n j hj) (ec j hj) (ed j hj) (by omega) (by omega) (by omega) (by rw [← hZ']; rfl) (by rw [← hZ']; rfl)
end

theorem courses_law (J : CallF) (K : KnR J) (hJ : ∀ a h, J 11 a h = none) (h : Heap) (lot bad : Int) {x y : AV} {A R : List Int} (hx : LR h x A) (hy : LR h y R) : CallsTo tbl J 11 [G lot, G bad, .agg [x, y]] h (.bool true, [], false) := by
  refine Tr.fnv (cf := c11) (e := .ret) (s := T.set (T.set (T.set .leaf [] (G lot)) [false] (G bad)) [true] (.agg [x, y])) (by decide) rfl (hJ _ _) rfl rfl rfl (by simp) ?_
  refine Tr.post (Q := (fun s h => s.get [true, true] = .bool true)) (fun s h q => by simp [c11, q]) ?_
  obtain ⟨xa, xr, own, k38, la, lr, _⟩ := K.k38 ⟨h.get, h.size, [.cells 0 2 [x, y]]⟩ x y A R (hx.lo _) (hy.lo _)
  have hsl : ∀ {h : Heap} {z : AV} {L : List Int}, listOf h z = some L → (∃ b n v, z = .slice b 0 n v) ∨ z = .nils := fun e => by
    rcases listOf_some e with ⟨e', _⟩ | ⟨b, v, e', g⟩
    · exact .inr e'
    · exact .inl ⟨b, _, v, e'⟩
  refine Tr.app2 (w11_0 J h k38 (hsl la) (hsl lr)) ?_
  generalize A.take 37 = La at *
  generalize R.take 37 = Lr at *
  generalize (⟨h.get, h.size, [.cells 0 2 [x, y]]⟩ : Heap).plus own = H1 at *
  have f7 : (H1.plus [.cells 0 2 [xa, xr]]).get H1.size = .cells 0 2 [xa, xr] := plus_at0 _ _ _ _ rfl
  have la := listOf_plus [.cells 0 2 [xa, xr]] la
  have lr := listOf_plus [.cells 0 2 [xa, xr]] lr
  generalize H1.size = b7 at *
  generalize H1.plus [.cells 0 2 [xa, xr]] = H2 at *
  clear k38
  by_cases hV : lotOk lot 0 ∧ crsOk lot La Lr
  · have k33 := K.k33 H2 lot xa xr La Lr la lr hV.1 hV.2
    have k40 := fun h la lr => K.k40 h lot xa xr La Lr la lr hV.1.1.2 true ⟨fun _ => rfl, fun _ => hV.2⟩
    by_cases hb : lotOk lot bad
    · obtain ⟨n, hn⟩ : ∃ n, La.length = n := ⟨_, rfl⟩
      have hc1 := hV.2.1
      have hb' := hb
      unfold lotOk at hb'
      have g : H4 lot bad n := ⟨by omega, by omega, by omega, by omega, by omega⟩
      have k34 := K.k34 H2 lot bad xa xr La Lr la lr hb hV.2
      obtain ⟨Z, hZ⟩ : ∃ Z, ofZ lot bad = Z := ⟨_, rfl⟩
      have z3 := ofZ_36 (lot := lot) (bad := bad) g.l2
      have z4 := ofZ_pos (n := lot) (k := bad) g.b1 g.b2
      rw [hn, hZ] at k34
      obtain ⟨u, v, eu⟩ : ∃ u v, fr (yT lot bad (La.getD · 0) (Lr.getD · 0) n) Z = .agg [G u, G v] := ⟨_, _, rfl⟩
      obtain ⟨p, q, ep⟩ : ∃ u v, fr (pT lot bad (La.getD · 0) (Lr.getD · 0) n) Z = .agg [G u, G v] := ⟨_, _, rfl⟩
      rw [eu, ep] at k34
      refine Tr.app2 (w11_2 J H2 f7 k33 k34) ?_
      obtain ⟨H3, s3⟩ : ∃ H, (H2.plus [.cells 0 2 [G u, G v]]).plus [.cells 0 2 [G p, G q]] = H := ⟨_, rfl⟩
      have f9 : H3.get H2.size = .cells 0 2 [G u, G v] := by rw [← s3]; exact plus_keep _ (plus_at0 _ _ _ _ rfl) (by simp)
      have f10 : H3.get (H2.size + 1) = .cells 0 2 [G p, G q] := by rw [← s3]; exact plus_at0 _ _ _ _ (by rw [plus_size]; rfl)
      have f7 : H3.get b7 = .cells 0 2 [xa, xr] := by rw [← s3]; exact plus_keep _ (plus_keep _ f7 (by simp)) (by simp)
      have la : listOf H3 xa = some La := by rw [← s3]; exact listOf_plus _ (listOf_plus _ la)
      have lr : listOf H3 xr = some Lr := by rw [← s3]; exact listOf_plus _ (listOf_plus _ lr)
      rw [s3]
      generalize H2.size = b9 at *
      clear s3 k33 k34
      obtain ⟨v', own', k39, ba, br, rfl, fa, fb, hne⟩ := K.k39 H3 lot bad xa xr La Lr la lr ⟨hb, hV.2⟩
      rw [hn] at k39 fa fb
      refine Tr.seq (w11_4 J H3 f7 k39 hne) ?_
      have f9 := plus_keep own' f9 (by simp)
      have f10 := plus_keep own' f10 (by simp)
      have f7 := plus_keep own' f7 (by simp)
      have la := listOf_plus own' la
      have lr := listOf_plus own' lr
      generalize H3.plus own' = H4' at *
      clear k39
      refine Tr.seq (w11_5 J true H4' f7 (.inr (.inr ⟨hb.1.1, hb.1.2, k40 H4' la lr⟩))) ?_
      refine Tr.seq (w11_6 J true H4') ?_
      refine Tr.app2 (w11_8 J K.toKn H4' hb hZ) ?_
      have k41 := K.k41 H4' lot bad xa xr La Lr la lr hb hV.2
      obtain ⟨v42, own42, k42, ya, yr, rfl, l1, l2, hne42⟩ := K.k42 H4' lot bad xa xr La Lr la lr hb hV.2
      rw [hn] at k41 l1 l2
      have ln1 : (yL lot bad (La.getD · 0) (Lr.getD · 0) n).length = n := zl_len _ _
      have ln2 : (nL lot bad (La.getD · 0) (Lr.getD · 0) n).length = n := zl_len _ _
      have n1 := g.n1
      rcases listOf_some l1 with ⟨_, e⟩ | ⟨ca, wa, rfl, gc⟩
      · rw [e] at ln1; simp at ln1; omega
      rcases listOf_some l2 with ⟨_, e⟩ | ⟨cr, wr, rfl, gd⟩
      · rw [e] at ln2; simp at ln2; omega
      rw [ln1, ln2] at k42
      refine Tr.app2 (w11_11 J H4' f7 k41 k42 hne42) ?_
      have f9 := plus_keep own42 f9 (by simp)
      have f10 := plus_keep own42 f10 (by simp)
      have fa := plus_keep own42 fa (by simp)
      have fb := plus_keep own42 fb (by simp)
      generalize H4'.plus own42 = H5 at *
      have b1 := yT_le (lot := lot) (bad := bad) (A := (La.getD · 0)) (R := (Lr.getD · 0)) g.b1 g.b2 n g.n2
      have b2 := pT_le (lot := lot) (bad := bad) (A := (La.getD · 0)) (R := (Lr.getD · 0)) g.b1 g.b2 g.l2 n g.n2
      have n36 : n ≤ 36 := by omega
      have b4 := Nat.mul_le_mul n36 z3
      have b5 := Nat.mul_le_mul n36 (Nat.mul_le_mul_left 36 z3)
      refine Tr.seq (w11_13 J K.toKn H5 f9 f10 (by omega) (by omega) (by omega) eu ep) ?_
      exact w11_loop J K.toKn H5 g hZ fa fb gc gd (fun i hi => by rw [List.getElem?_map, zl_get, if_pos hi]; rfl) (fun i hi => by rw [List.getElem?_map, zl_get, if_pos hi]; rfl)
    · have k34 := K.k34n H2 lot bad xa xr La Lr la lr (fun q => hb q.1)
      refine Tr.app2 (w11_2 J H2 f7 k33 k34) ?_
      obtain ⟨H3, s3⟩ : ∃ H, (H2.plus [.cells 0 2 [G 0, G 0]]).plus [.cells 0 2 [G 0, G 0]] = H := ⟨_, rfl⟩
      have f9 : H3.get H2.size = .cells 0 2 [G 0, G 0] := by rw [← s3]; exact plus_keep _ (plus_at0 _ _ _ _ rfl) (by simp)
      have f10 : H3.get (H2.size + 1) = .cells 0 2 [G 0, G 0] := by rw [← s3]; exact plus_at0 _ _ _ _ (by rw [plus_size]; rfl)
      have f7 : H3.get b7 = .cells 0 2 [xa, xr] := by rw [← s3]; exact plus_keep _ (plus_keep _ f7 (by simp)) (by simp)
      have la : listOf H3 xa = some La := by rw [← s3]; exact listOf_plus _ (listOf_plus _ la)
      have lr : listOf H3 xr = some Lr := by rw [← s3]; exact listOf_plus _ (listOf_plus _ lr)
      rw [s3]
      have k39 := K.k39n H3 lot bad xa xr La Lr la lr (fun q => hb q.1)
      refine Tr.seq (w11_4n J H3 f7 k39) (Tr.seq (w11_5 J true H3 f7 (.inr (.inr ⟨hV.1.1.1, hV.1.1.2, k40 H3 la lr⟩))) (Tr.seq (w11_6 J true H3) (Tr.seq_out (w11_8n J K.toKn true H3 (.inr ⟨rfl, hb⟩) f9 f10) (by simp))))
  · have k33 := K.k33n H2 lot xa xr La Lr la lr hV
    have hV' : ¬ (lotOk lot bad ∧ crsOk lot La Lr) := fun q => hV ⟨⟨q.1.1, by have := q.1.1; omega⟩, q.2⟩
    have k34 := K.k34n H2 lot bad xa xr La Lr la lr hV'
    refine Tr.app2 (w11_2 J H2 f7 k33 k34) ?_
    obtain ⟨H3, s3⟩ : ∃ H, (H2.plus [.cells 0 2 [G 0, G 0]]).plus [.cells 0 2 [G 0, G 0]] = H := ⟨_, rfl⟩
    have f9 : H3.get H2.size = .cells 0 2 [G 0, G 0] := by rw [← s3]; exact plus_keep _ (plus_at0 _ _ _ _ rfl) (by simp)
    have f10 : H3.get (H2.size + 1) = .cells 0 2 [G 0, G 0] := by rw [← s3]; exact plus_at0 _ _ _ _ (by rw [plus_size]; rfl)
    have f7 : H3.get b7 = .cells 0 2 [xa, xr] := by rw [← s3]; exact plus_keep _ (plus_keep _ f7 (by simp)) (by simp)
    have la : listOf H3 xa = some La := by rw [← s3]; exact listOf_plus _ (listOf_plus _ la)
    have lr : listOf H3 xr = some Lr := by rw [← s3]; exact listOf_plus _ (listOf_plus _ lr)
    rw [s3]
    have k39 := K.k39n H3 lot bad xa xr La Lr la lr hV'
    have hcs : (lot < 1 ∧ false = false) ∨ (1 ≤ lot ∧ 36 < lot ∧ false = false) ∨ (1 ≤ lot ∧ lot ≤ 36 ∧ J 40 [G lot, .agg [xa, xr]] H3 = some (.bool false, [], false)) := by
      by_cases q1 : lot < 1
      · exact .inl ⟨q1, rfl⟩
      · by_cases q2 : 36 < lot
        · exact .inr (.inl ⟨by omega, q2, rfl⟩)
        · refine .inr (.inr ⟨by omega, by omega, K.k40 H3 lot xa xr La Lr la lr (by omega) false ⟨fun q => absurd ⟨⟨⟨by omega, by omega⟩, by omega⟩, q⟩ hV, fun q => by cases q⟩⟩)
    exact Tr.seq (w11_4n J H3 f7 k39) (Tr.seq (w11_5 J false H3 f7 hcs) (Tr.seq (w11_6 J false H3) (Tr.seq_out (w11_8n J K.toKn false H3 (.inl rfl) f9 f10) (by simp))))

theorem courses_ok (h : Heap) (lot bad : Int) {x y : AV} {A R : List Int} (hx : LR h x A) (hy : LR h y R) : CallsTo tbl C16 11 [G lot, G bad, .agg [x, y]] h (.bool true, [], false) := courses_law C16 knR16 (fun _ _ => rfl) h lot bad hx hy

end Go.Proofs.Ytlkgpcfhpeilhaa.Ev
