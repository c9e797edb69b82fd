/-
  What the visits of stops$1 are: the numbers of a course, one after another, to any function that takes them. No condition.
-/
import Derived.Test.YtlkgpcfhpeilhaaSOpen
set_option linter.unusedVariables false
set_option linter.unusedSimpArgs false
namespace Go.Proofs.Ytlkgpcfhpeilhaa.Ev
open Go Go.AEv

attribute [local simp] evFunc initS evOps_c evTrim_c evSkip_c evExit_c evRet_c evSeq_c evCond_c evBlock_c evDraw_c runOps_n runOps_c exec_n exec_g pure1_c act AOpd.ev T.get T.set T.put evBin evUn forceT_eq forceV_eq forceL_eq evRess evRes one keep runFP_n runFP_c app_none AV.flats AV.flat

/-- Where all that is read lies. -/
structure Gp where
  l : Nat
  bc : Nat
  bt : Nat
  bl : Nat
  bb : Nat
  tb : Nat
  bA : Nat
  vA : Nat
  bR : Nat
  vR : Nat
  n : Nat
  nw : Nat
  lot : Int
  bad : Int
  A : Nat → Int
  R : Nat → Int
  ca : List AV
  cr : List AV
structure GF (p : Gp) (h : Heap) : Prop where
  fc : h.get p.bc = .cells 0 2 [.slice p.bA 0 p.n p.vA, .slice p.bR 0 p.n p.vR]
  fa : h.get p.bA = .cells 1 p.vA p.ca
  fr : h.get p.bR = .cells 1 p.vR p.cr
  ft : h.get p.bt = .cells 0 1 [.ptr p.tb 0 1369]
  fl : h.get p.bl = .cells 0 1 [G p.lot]
  fb : h.get p.bb = .cells 0 1 [G p.bad]
  fk : h.get p.tb = .cells 0 1369 (tri 37 0)
structure Av (p : Gp) (M : Nat → Prop) : Prop where
  c : ¬ M p.bc
  a : ¬ M p.bA
  r : ¬ M p.bR
  t : ¬ M p.bt
  l : ¬ M p.bl
  b : ¬ M p.bb
  k : ¬ M p.tb
theorem GF.kp {p : Gp} {M : Nat → Prop} {h h' : Heap} (x : GF p h) (k : Kp M h h') (m : Av p M) : GF p h' :=
  ⟨k.at x.fc (by simp) m.c, k.at x.fa (by simp) m.a, k.at x.fr (by simp) m.r, k.at x.ft (by simp) m.t, k.at x.fl (by simp) m.l, k.at x.fb (by simp) m.b, k.at x.fk (by simp) m.k⟩
theorem GF.plus {p : Gp} {h : Heap} (x : GF p h) (xs : List AObj) : GF p (h.plus xs) := x.kp (M := fun _ => False) (Kp.plus h xs) ⟨id, id, id, id, id, id, id⟩
structure GH (p : Gp) : Prop where
  n1 : 1 ≤ p.n
  n2 : (p.n : Int) ≤ p.lot
  l2 : p.lot ≤ 36
  b1 : 0 ≤ p.bad
  b2 : p.bad ≤ p.lot
  ha : ∀ i, i < p.n → p.ca[i]? = some (G (p.A i))
  hr : ∀ i, i < p.n → p.cr[i]? = some (G (p.R i))
  av : Av p (· = p.nw)

abbrev nwC (f : Nat → Nat) : AObj := .cells 0 38 (zs (fun k => (f k : Int)) 38)
theorem nwC_ext {f g : Nat → Nat} (h : ∀ k, f k = g k) : nwC f = nwC g := by
  unfold nwC; rw [zs_ext _ _ _ (fun k _ => by rw [h k])]

theorem evDraw_0 (r : Rec) (os : List COper) (ps : List (Nat × Nat)) (anc : List (List Nat)) (s : T) (h : Heap) : evCode r (.draw 0 os ps anc) s h = match runFP r.call h os s h with
    | some (s', h', fps) => if ps.all (fun p => okPair h.size (fps.getD p.1 {}) (fps.getD p.2 {})) && fps.all (fun f => !f.eff.isAll) then some (.normal, s', h') else none
    | none => none := by
  rw [evDraw_c, show ({ h with own := h.own ++ List.replicate 0 .hole } : Heap) = h by simp]; rfl
theorem put_p1 (h : Heap) (v o g : Nat) (cs : List AV) (x : AV) (xs : List AObj) (ho : o < cs.length) : Eff.app (.put h.size v o [x]) (h.plus (.cells g v cs :: xs)) = some (h.plus (.cells g v (cs.set o x) :: xs)) := by
  rw [put_plus0 h v o g cs [x] xs h.size rfl (by simp; omega)]; rfl
section
variable {p : Gp} {i k : Nat} {H : Heap}
abbrev Q7 (p : Gp) (i nb : Nat) : SP := (fun s h => s.get [] = .yld p.l ∧ s.get [false] = .ptr p.bc 0 2 ∧ s.get [true] = .ptr p.bt 0 1 ∧ s.get [false, false] = .ptr p.bl 0 1 ∧ s.get [true, false] = .ptr p.bb 0 1 ∧ s.get [true, true] = .ptr p.nw 0 38 ∧ s.get [false, false, false] = G i ∧ s.get [true, false, false] = .ptr nb 0 38 ∧ s.get [false, true, false, false] = G p.n ∧ s.get [true, true, false, false] = G i)

/-! ### The old numbers are put in -/
abbrev L70i : List Path := [[], [false], [true], [false, false], [true, false], [true, true], [false, false, false], [true, false, false], [false, true, false, false], [true, true, false, false], [false, false, false, true], [true, false, false, true], [false, true, false, true]]
theorem st_a (J : CallF) (hi : i < 36) (o : Nat → Nat) (ho : ∀ k, o k ≤ 68719476736) (m : Nat) (hm : m ≤ i) (hw : H.get p.nw = nwC o) (hne : p.nw ≠ H.size) :
    Tr tbl J (.trim L70i c70_b0) (fun s h => s.get [] = .yld p.l ∧ s.get [false] = .ptr p.bc 0 2 ∧ s.get [true] = .ptr p.bt 0 1 ∧ s.get [false, false] = .ptr p.bl 0 1 ∧ s.get [true, false] = .ptr p.bb 0 1 ∧ s.get [true, true] = .ptr p.nw 0 38 ∧ s.get [false, false, false] = G i ∧ s.get [true, false, false] = .ptr H.size 0 38 ∧ s.get [false, true, false, false] = G p.n ∧ s.get [true, true, false, false] = G i ∧ s.get [false, false, false, true] = .slice p.nw 0 (i + 1) 38 ∧ s.get [true, false, false, true] = G ((i + 1 : Nat) : Int) ∧ s.get [false, true, false, true] = G m ∧ h = H.plus [nwC (cpN o m)]) .normal (fun s h => s.get [] = .yld p.l ∧ s.get [false] = .ptr p.bc 0 2 ∧ s.get [true] = .ptr p.bt 0 1 ∧ s.get [false, false] = .ptr p.bl 0 1 ∧ s.get [true, false] = .ptr p.bb 0 1 ∧ s.get [true, true] = .ptr p.nw 0 38 ∧ s.get [false, false, false] = G i ∧ s.get [true, false, false] = .ptr H.size 0 38 ∧ s.get [false, true, false, false] = G p.n ∧ s.get [true, true, false, false] = G i ∧ s.get [false, false, false, true] = .slice p.nw 0 (i + 1) 38 ∧ s.get [true, false, false, true] = G ((i + 1 : Nat) : Int) ∧ s.get [false, true, false, true] = G ((m + 1 : Nat) : Int) ∧ h = H.plus [nwC (cpN o (m + 1))]) := by
  have w1 : ∀ xs, (H.plus xs).get p.nw = nwC o := fun xs => plus_keep xs hw (by simp)
  have w2 : (zs (fun k => (o k : Int)) 38)[m]? = some (G (o m)) := by rw [zs_at, if_pos (by omega)]
  have b1 : cpN o m m ≤ 68719476736 := by
    have h1 := ho (m - 1)
    unfold cpN; rw [if_neg (by omega)]; split <;> omega
  have b2 := ho m
  have b3 : cpN o m (m + 1) = 0 := by unfold cpN; rw [if_neg (by omega), if_neg (by omega)]
  obtain ⟨c0, hc0⟩ : ∃ c, zs (fun k => (cpN o m k : Int)) 38 = c := ⟨_, rfl⟩
  obtain ⟨c1, hc1⟩ : ∃ c, c0.set m (G ((cpN o m m : Int) + o m)) = c := ⟨_, rfl⟩
  have e0 : c0[m]? = some (G (cpN o m m)) := by rw [← hc0, zs_at, if_pos (by omega)]
  have l0 : c0.length = 38 := by rw [← hc0, zs_len]
  have l1 : c1.length = 38 := by rw [← hc1, List.length_set, l0]
  have e1 : c1[m + 1]? = some (G 0) := by rw [← hc1, List.getElem?_set_ne (by omega), ← hc0, zs_at, if_pos (by omega), b3]; rfl
  have e2 : c1.set (m + 1) (G (o m)) = zs (fun k => (cpN o (m + 1) k : Int)) 38 := by
    rw [← hc1, ← hc0, zs_set _ _ _ _ (by omega), zs_set _ _ _ _ (by omega)]
    refine zs_ext _ _ _ fun j _ => ?_
    rw [← cpN_step o m j]
    have hm' : ¬ (m + 1 = m) := by omega
    rw [if_neg hm', b3, Nat.zero_add]
    split
    · rfl
    · split
      · simp
      · rfl
  have f0 : ∀ h : m < c0.length, c0[m] = G (cpN o m m) := fun h => (List.getElem?_eq_some_iff.1 e0).2
  have f1 : ∀ h : m + 1 < c1.length, c1[m + 1] = G 0 := fun h => (List.getElem?_eq_some_iff.1 e1).2
  have u0 : ∀ x, Eff.app (.put H.size 38 m [x]) (H.plus [.cells 0 38 c0]) = some (H.plus [.cells 0 38 (c0.set m x)]) := fun x => put_p1 _ _ _ _ _ _ _ (by omega)
  have u1 : ∀ x, Eff.app (.put H.size 38 (m + 1) [x]) (H.plus [.cells 0 38 c1]) = some (H.plus [.cells 0 38 (c1.set (m + 1) x)]) := fun x => put_p1 _ _ _ _ _ _ _ (by omega)
  rw [nwC, nwC, hc0, ← e2]
  clear e2 hc0 b3 ho
  generalize cpN o m m = a at *
  generalize o m = b at *
  have t : Tr tbl J ((.trim L70i c70_b0)) (fun s h => s.get [] = .yld p.l ∧ s.get [false] = .ptr p.bc 0 2 ∧ s.get [true] = .ptr p.bt 0 1 ∧ s.get [false, false] = .ptr p.bl 0 1 ∧ s.get [true, false] = .ptr p.bb 0 1 ∧ s.get [true, true] = .ptr p.nw 0 38 ∧ s.get [false, false, false] = G i ∧ s.get [true, false, false] = .ptr H.size 0 38 ∧ s.get [false, true, false, false] = G p.n ∧ s.get [true, true, false, false] = G i ∧ s.get [false, false, false, true] = .slice p.nw 0 (i + 1) 38 ∧ s.get [true, false, false, true] = G ((i + 1 : Nat) : Int) ∧ s.get [false, true, false, true] = G m ∧ h = H.plus [.cells 0 38 c0]) .normal (fun s h => s.get [] = .yld p.l ∧ s.get [false] = .ptr p.bc 0 2 ∧ s.get [true] = .ptr p.bt 0 1 ∧ s.get [false, false] = .ptr p.bl 0 1 ∧ s.get [true, false] = .ptr p.bb 0 1 ∧ s.get [true, true] = .ptr p.nw 0 38 ∧ s.get [false, false, false] = G i ∧ s.get [true, false, false] = .ptr H.size 0 38 ∧ s.get [false, true, false, false] = G p.n ∧ s.get [true, true, false, false] = G i ∧ s.get [false, false, false, true] = .slice p.nw 0 (i + 1) 38 ∧ s.get [true, false, false, true] = G ((i + 1 : Nat) : Int) ∧ s.get [false, true, false, true] = G ((m + 1 : Nat) : Int) ∧ h = H.plus [.cells 0 38 (c1.set (m + 1) (G b))]) := Tr.region fun s h hp => by
    obtain ⟨g0, g1, g2, g3, g4, g5, g6, g7, g8, g9, g10, g11, g12, rfl⟩ := hp
    simp (disch := first | omega | exact getEq rfl | exact getO0 | exact Nat.le_of_ble_eq_true rfl) [c70_b0, c70_o7, c70_o8, c70_o9, c70_o10, c70_o11, came_some, goI, List.getElem?_cons_zero, List.getElem?_cons_succ, kn, keep, app_growP, app_noneP, plus_N, plus_at0, put_plus0, upd_N, upd_size, putAt, AV.cells, fillA, loadA, takeA, mk, Eff.isAll, Eff.isNone, Eff.commutes, Eff.spares, okPair, apart, eqAgg, fits, LK.fits, allEq, aveq, eqk, mmA, beqT, wrapI, idxI, tdivI, tmodI, decT, decF, ibT, ibF, inT, inF, evScope_c, if_pos, if_neg, g0, g1, g2, g3, g4, g5, g6, g7, g8, g9, g10, g11, g12, w1, w2, e0, l0, hc1, l1, e1, f0, f1, u0, u1]
  exact t
theorem st_a_end (J : CallF) (hi : i < 36) (X : Heap) : Tr tbl J (.trim L70i c70_b0) (fun s h => s.get [] = .yld p.l ∧ s.get [false] = .ptr p.bc 0 2 ∧ s.get [true] = .ptr p.bt 0 1 ∧ s.get [false, false] = .ptr p.bl 0 1 ∧ s.get [true, false] = .ptr p.bb 0 1 ∧ s.get [true, true] = .ptr p.nw 0 38 ∧ s.get [false, false, false] = G i ∧ s.get [true, false, false] = .ptr H.size 0 38 ∧ s.get [false, true, false, false] = G p.n ∧ s.get [true, true, false, false] = G i ∧ s.get [false, false, false, true] = .slice p.nw 0 (i + 1) 38 ∧ s.get [true, false, false, true] = G ((i + 1 : Nat) : Int) ∧ s.get [false, true, false, true] = G ((i + 1 : Nat) : Int) ∧ h = X) (.exit 2) (fun s h => s.get [] = .yld p.l ∧ s.get [false] = .ptr p.bc 0 2 ∧ s.get [true] = .ptr p.bt 0 1 ∧ s.get [false, false] = .ptr p.bl 0 1 ∧ s.get [true, false] = .ptr p.bb 0 1 ∧ s.get [true, true] = .ptr p.nw 0 38 ∧ s.get [false, false, false] = G i ∧ s.get [true, false, false] = .ptr H.size 0 38 ∧ s.get [false, true, false, false] = G p.n ∧ s.get [true, true, false, false] = G i ∧ h = X) := by
  have t : Tr tbl J ((.trim L70i c70_b0)) (fun s h => s.get [] = .yld p.l ∧ s.get [false] = .ptr p.bc 0 2 ∧ s.get [true] = .ptr p.bt 0 1 ∧ s.get [false, false] = .ptr p.bl 0 1 ∧ s.get [true, false] = .ptr p.bb 0 1 ∧ s.get [true, true] = .ptr p.nw 0 38 ∧ s.get [false, false, false] = G i ∧ s.get [true, false, false] = .ptr H.size 0 38 ∧ s.get [false, true, false, false] = G p.n ∧ s.get [true, true, false, false] = G i ∧ s.get [false, false, false, true] = .slice p.nw 0 (i + 1) 38 ∧ s.get [true, false, false, true] = G ((i + 1 : Nat) : Int) ∧ s.get [false, true, false, true] = G ((i + 1 : Nat) : Int) ∧ h = X) (.exit 2) (fun s h => s.get [] = .yld p.l ∧ s.get [false] = .ptr p.bc 0 2 ∧ s.get [true] = .ptr p.bt 0 1 ∧ s.get [false, false] = .ptr p.bl 0 1 ∧ s.get [true, false] = .ptr p.bb 0 1 ∧ s.get [true, true] = .ptr p.nw 0 38 ∧ s.get [false, false, false] = G i ∧ s.get [true, false, false] = .ptr H.size 0 38 ∧ s.get [false, true, false, false] = G p.n ∧ s.get [true, true, false, false] = G i ∧ h = X) := Tr.region fun s h hp => by
    obtain ⟨g0, g1, g2, g3, g4, g5, g6, g7, g8, g9, g10, g11, g12, rfl⟩ := hp
    simp (disch := first | omega | exact getEq rfl | exact getO0 | exact Nat.le_of_ble_eq_true rfl) [c70_b0, c70_o7, came_some, goI, List.getElem?_cons_zero, List.getElem?_cons_succ, kn, keep, app_growP, app_noneP, plus_N, plus_at0, put_plus0, upd_N, upd_size, putAt, AV.cells, fillA, loadA, takeA, mk, Eff.isAll, Eff.isNone, Eff.commutes, Eff.spares, okPair, apart, eqAgg, fits, LK.fits, allEq, aveq, eqk, mmA, beqT, wrapI, idxI, tdivI, tmodI, decT, decF, ibT, ibF, inT, inF, evScope_c, if_pos, if_neg, g0, g1, g2, g3, g4, g5, g6, g7, g8, g9, g10, g11, g12]
  exact t
/-! ### What is decided -/
theorem nwC_put (A R : Nat → Int) (i m : Nat) (hm : m < 38) (hx : (m : Int) ≤ A i ∨ R i ≤ m) : nwC (dnN A R i (m + 1)) = .cells 0 38 ((zs (fun k => (dnN A R i m k : Int)) 38).set m (G 0)) := by
  rw [zs_set _ _ _ _ hm]
  refine congrArg (AObj.cells 0 38) (zs_ext _ _ _ fun j _ => ?_)
  rw [dnN_put A R i m hx j]; split <;> rfl
theorem nwC_keep (A R : Nat → Int) (i m : Nat) (h1 : ¬ (m : Int) ≤ A i) (h2 : ¬ R i ≤ m) : nwC (dnN A R i (m + 1)) = .cells 0 38 (zs (fun k => (dnN A R i m k : Int)) 38) :=
  congrArg (AObj.cells 0 38) (zs_ext _ _ _ fun j _ => by rw [dnN_keep A R i m h1 h2 j])
abbrev L70k : List Path := [[], [false], [true], [false, false], [true, false], [true, true], [false, false, false], [true, false, false], [false, false, true], [false, true, false, false], [true, true, false, false], [false, false, false, false, true], [true, false, false, false, true]]
theorem st_b (J : CallF) (K : Kn J) (g : GH p) (hi : i < p.n) (hf : GF p H) (m : Nat) (hm : m ≤ i + 1) :
    Tr tbl J (.trim L70k c70_b1) (fun s h => s.get [] = .yld p.l ∧ s.get [false] = .ptr p.bc 0 2 ∧ s.get [true] = .ptr p.bt 0 1 ∧ s.get [false, false] = .ptr p.bl 0 1 ∧ s.get [true, false] = .ptr p.bb 0 1 ∧ s.get [true, true] = .ptr p.nw 0 38 ∧ s.get [false, false, false] = G i ∧ s.get [true, false, false] = .ptr H.size 0 38 ∧ s.get [false, false, true] = .ptr (H.size + 1) 0 2 ∧ s.get [false, true, false, false] = G p.n ∧ s.get [true, true, false, false] = G i ∧ s.get [false, false, false, false, true] = G ((i + 2 : Nat) : Int) ∧ s.get [true, false, false, false, true] = G m ∧ h = H.plus [nwC (dnN p.A p.R i m), .cells 0 2 [G (yS p.lot p.bad p.A p.R i m), G (nS p.lot p.bad p.A p.R i m)]]) .normal (fun s h => s.get [] = .yld p.l ∧ s.get [false] = .ptr p.bc 0 2 ∧ s.get [true] = .ptr p.bt 0 1 ∧ s.get [false, false] = .ptr p.bl 0 1 ∧ s.get [true, false] = .ptr p.bb 0 1 ∧ s.get [true, true] = .ptr p.nw 0 38 ∧ s.get [false, false, false] = G i ∧ s.get [true, false, false] = .ptr H.size 0 38 ∧ s.get [false, false, true] = .ptr (H.size + 1) 0 2 ∧ s.get [false, true, false, false] = G p.n ∧ s.get [true, true, false, false] = G i ∧ s.get [false, false, false, false, true] = G ((i + 2 : Nat) : Int) ∧ s.get [true, false, false, false, true] = G ((m + 1 : Nat) : Int) ∧ h = H.plus [nwC (dnN p.A p.R i (m + 1)), .cells 0 2 [G (yS p.lot p.bad p.A p.R i (m + 1)), G (nS p.lot p.bad p.A p.R i (m + 1))]]) := by
  have n2 := g.n2
  have l2 := g.l2
  have b1 := g.b1
  have b2 := g.b2
  have hi36 : i < 36 := by omega
  have hfp := hf.plus [nwC (dnN p.A p.R i m), .cells 0 2 [G (yS p.lot p.bad p.A p.R i m), G (nS p.lot p.bad p.A p.R i m)]]
  have kk := K.k58 _ p.tb (p.lot - i - 1) (p.bad - m) hfp.fk (by omega)
  obtain ⟨fc, fa, fr, ft, fl, fb, fk⟩ := hfp
  have xa := g.ha i hi
  have xr := g.hr i hi
  have bt := tk_all (lot := p.lot) (bad := p.bad) (A := p.A) (R := p.R) i m (by omega) g.b1 g.b2
  have byn := yn_all (lot := p.lot) (bad := p.bad) (A := p.A) (R := p.R) i m (by omega) g.b1 g.b2
  have b36 := ofZ_36 (lot := p.lot) (bad := p.bad) l2
  have ea := dnN_at p.A p.R i m
  have et : (tk p.lot p.bad p.A p.R i m : Int) = (nx (opn p.A p.R i) m : Int) * (ofZ (p.lot - i - 1) (p.bad - m) : Int) := by unfold tk; exact Int.natCast_mul _ _
  have ey : yS p.lot p.bad p.A p.R i (m + 1) = yS p.lot p.bad p.A p.R i m + if (m : Int) ≤ p.A i then tk p.lot p.bad p.A p.R i m else 0 := rfl
  have en : nS p.lot p.bad p.A p.R i (m + 1) = nS p.lot p.bad p.A p.R i m + if (m : Int) ≤ p.A i then 0 else if p.R i ≤ m then tk p.lot p.bad p.A p.R i m else 0 := rfl
  rw [ey, en]
  obtain ⟨c0, hc0⟩ : ∃ c, zs (fun k => (dnN p.A p.R i m k : Int)) 38 = c := ⟨_, rfl⟩
  have e0 : c0[m]? = some (G (nx (opn p.A p.R i) m)) := by rw [← hc0, zs_at, if_pos (by omega), ea]
  have l0 : c0.length = 38 := by rw [← hc0, zs_len]
  have f0 : ∀ h : m < c0.length, c0[m] = G (nx (opn p.A p.R i) m) := fun h => (List.getElem?_eq_some_iff.1 e0).2
  have hp1 : ((m : Int) ≤ p.A i ∨ p.R i ≤ m) → nwC (dnN p.A p.R i (m + 1)) = .cells 0 38 (c0.set m (G 0)) := fun hx => by rw [← hc0]; exact nwC_put _ _ _ _ (by omega) hx
  have hp2 : ¬ (m : Int) ≤ p.A i → ¬ p.R i ≤ m → nwC (dnN p.A p.R i (m + 1)) = .cells 0 38 c0 := fun h1 h2 => by rw [← hc0]; exact nwC_keep _ _ _ _ h1 h2
  have u0 : ∀ x ys, Eff.app (.put H.size 38 m [x]) (H.plus (.cells 0 38 c0 :: ys)) = some (H.plus (.cells 0 38 (c0.set m x) :: ys)) := fun x ys => put_p1 _ _ _ _ _ _ _ (by omega)
  have u1 : ∀ a b o x c, o < 2 → Eff.app (.put (H.size + 1) 2 o [x]) (H.plus [c, .cells 0 2 [a, b]]) = some (H.plus [c, .cells 0 2 ([a, b].set o x)]) := fun a b o x c ho => by
    rw [put_plus H [c, .cells 0 2 [a, b]] 1 2 o 0 [a, b] [x] (H.size + 1) rfl rfl (by simp; omega)]; rfl
  have v1 : ∀ c d, (H.plus [c, d]).get (H.size + 1) = d := fun c d => by rw [plus_ge _ _ _ (by omega), Nat.add_sub_cancel_left]; rfl
  have fx : ∀ c d, (H.plus [c, d]).get p.bc = .cells 0 2 [.slice p.bA 0 p.n p.vA, .slice p.bR 0 p.n p.vR] ∧ (H.plus [c, d]).get p.bA = .cells 1 p.vA p.ca ∧ (H.plus [c, d]).get p.bR = .cells 1 p.vR p.cr := fun c d => by
    have := hf.plus [c, d]; exact ⟨this.fc, this.fa, this.fr⟩
  have fx1 := fun c d => (fx c d).1
  have fx2 := fun c d => (fx c d).2.1
  have fx3 := fun c d => (fx c d).2.2
  clear fx hf fc fa fr ea ey en fk
  have e16 : nwC (dnN p.A p.R i m) = .cells 0 38 c0 := by unfold nwC; rw [hc0]
  rw [e16] at kk ft fl fb ⊢
  clear e16 hc0
  generalize tk p.lot p.bad p.A p.R i m = T at *
  generalize nx (opn p.A p.R i) m = a at *
  generalize ofZ (p.lot - i - 1) (p.bad - m) = z at *
  generalize yS p.lot p.bad p.A p.R i m = y at *
  generalize nS p.lot p.bad p.A p.R i m = q at *
  obtain ⟨hT1, hT2⟩ : 0 ≤ (a : Int) * (z : Int) ∧ (a : Int) * (z : Int) ≤ 68719476736 := by omega
  have ta : Tr tbl J ((.trim L70k (.seq c70_o14 (.cond (.s [false, true, false, false, true]) .skip (.exit 4))))) (fun s h => s.get [] = .yld p.l ∧ s.get [false] = .ptr p.bc 0 2 ∧ s.get [true] = .ptr p.bt 0 1 ∧ s.get [false, false] = .ptr p.bl 0 1 ∧ s.get [true, false] = .ptr p.bb 0 1 ∧ s.get [true, true] = .ptr p.nw 0 38 ∧ s.get [false, false, false] = G i ∧ s.get [true, false, false] = .ptr H.size 0 38 ∧ s.get [false, false, true] = .ptr (H.size + 1) 0 2 ∧ s.get [false, true, false, false] = G p.n ∧ s.get [true, true, false, false] = G i ∧ s.get [false, false, false, false, true] = G ((i + 2 : Nat) : Int) ∧ s.get [true, false, false, false, true] = G m ∧ h = H.plus [.cells 0 38 c0, .cells 0 2 [G y, G q]]) .normal (fun s h => s.get [] = .yld p.l ∧ s.get [false] = .ptr p.bc 0 2 ∧ s.get [true] = .ptr p.bt 0 1 ∧ s.get [false, false] = .ptr p.bl 0 1 ∧ s.get [true, false] = .ptr p.bb 0 1 ∧ s.get [true, true] = .ptr p.nw 0 38 ∧ s.get [false, false, false] = G i ∧ s.get [true, false, false] = .ptr H.size 0 38 ∧ s.get [false, false, true] = .ptr (H.size + 1) 0 2 ∧ s.get [false, true, false, false] = G p.n ∧ s.get [true, true, false, false] = G i ∧ s.get [false, false, false, false, true] = G ((i + 2 : Nat) : Int) ∧ s.get [true, false, false, false, true] = G m ∧ h = H.plus [.cells 0 38 c0, .cells 0 2 [G y, G q]]) := Tr.region fun s h hp => by
    obtain ⟨g0, g1, g2, g3, g4, g5, g6, g7, g8, g9, g10, g11, g12, rfl⟩ := hp
    simp (disch := first | omega | exact getEq rfl | exact getO0 | exact Nat.le_of_ble_eq_true rfl) [c70_o14, came_some, goI, List.getElem?_cons_zero, List.getElem?_cons_succ, kn, keep, app_growP, app_noneP, plus_N, plus_at0, put_plus0, upd_N, upd_size, putAt, AV.cells, fillA, loadA, takeA, mk, Eff.isAll, Eff.isNone, Eff.commutes, Eff.spares, okPair, apart, eqAgg, fits, LK.fits, allEq, aveq, eqk, mmA, beqT, wrapI, idxI, tdivI, tmodI, decT, decF, ibT, ibF, inT, inF, evScope_c, if_pos, if_neg, g0, g1, g2, g3, g4, g5, g6, g7, g8, g9, g10, g11, g12]
  have tb : Tr tbl J ((.seq c70_o15 c70_o16)) (fun s h => s.get [] = .yld p.l ∧ s.get [false] = .ptr p.bc 0 2 ∧ s.get [true] = .ptr p.bt 0 1 ∧ s.get [false, false] = .ptr p.bl 0 1 ∧ s.get [true, false] = .ptr p.bb 0 1 ∧ s.get [true, true] = .ptr p.nw 0 38 ∧ s.get [false, false, false] = G i ∧ s.get [true, false, false] = .ptr H.size 0 38 ∧ s.get [false, false, true] = .ptr (H.size + 1) 0 2 ∧ s.get [false, true, false, false] = G p.n ∧ s.get [true, true, false, false] = G i ∧ s.get [false, false, false, false, true] = G ((i + 2 : Nat) : Int) ∧ s.get [true, false, false, false, true] = G m ∧ h = H.plus [.cells 0 38 c0, .cells 0 2 [G y, G q]]) .normal (fun s h => s.get [] = .yld p.l ∧ s.get [false] = .ptr p.bc 0 2 ∧ s.get [true] = .ptr p.bt 0 1 ∧ s.get [false, false] = .ptr p.bl 0 1 ∧ s.get [true, false] = .ptr p.bb 0 1 ∧ s.get [true, true] = .ptr p.nw 0 38 ∧ s.get [false, false, false] = G i ∧ s.get [true, false, false] = .ptr H.size 0 38 ∧ s.get [false, false, true] = .ptr (H.size + 1) 0 2 ∧ s.get [false, true, false, false] = G p.n ∧ s.get [true, true, false, false] = G i ∧ s.get [false, false, false, false, true] = G ((i + 2 : Nat) : Int) ∧ s.get [true, false, false, false, true] = G m ∧ s.get [true, false, true] = G m ∧ s.get [false, true, true] = G T ∧ h = H.plus [.cells 0 38 c0, .cells 0 2 [G y, G q]]) := Tr.region fun s h hp => by
    obtain ⟨g0, g1, g2, g3, g4, g5, g6, g7, g8, g9, g10, g11, g12, rfl⟩ := hp
    simp (disch := first | omega | exact getEq rfl | exact getO0 | exact Nat.le_of_ble_eq_true rfl) [-evDraw_c, c70_o15, c70_o16, came_some, goI, List.getElem?_cons_zero, List.getElem?_cons_succ, kn, keep, app_growP, app_noneP, plus_N, plus_at0, put_plus0, upd_N, upd_size, putAt, AV.cells, fillA, loadA, takeA, mk, Eff.isAll, Eff.isNone, Eff.commutes, Eff.spares, okPair, apart, eqAgg, fits, LK.fits, allEq, aveq, eqk, mmA, beqT, wrapI, idxI, tdivI, tmodI, decT, decF, ibT, ibF, inT, inF, evScope_c, if_pos, if_neg, g0, g1, g2, g3, g4, g5, g6, g7, g8, g9, g10, g11, g12, evDraw_0, kk, ft, fl, fb, e0, f0, l0, et]
  have te := fun (X : Heap) => (show Tr tbl J c70_o23 (fun s h => s.get [] = .yld p.l ∧ s.get [false] = .ptr p.bc 0 2 ∧ s.get [true] = .ptr p.bt 0 1 ∧ s.get [false, false] = .ptr p.bl 0 1 ∧ s.get [true, false] = .ptr p.bb 0 1 ∧ s.get [true, true] = .ptr p.nw 0 38 ∧ s.get [false, false, false] = G i ∧ s.get [true, false, false] = .ptr H.size 0 38 ∧ s.get [false, false, true] = .ptr (H.size + 1) 0 2 ∧ s.get [false, true, false, false] = G p.n ∧ s.get [true, true, false, false] = G i ∧ s.get [false, false, false, false, true] = G ((i + 2 : Nat) : Int) ∧ s.get [true, false, false, false, true] = G m ∧ h = X) .normal (fun s h => s.get [] = .yld p.l ∧ s.get [false] = .ptr p.bc 0 2 ∧ s.get [true] = .ptr p.bt 0 1 ∧ s.get [false, false] = .ptr p.bl 0 1 ∧ s.get [true, false] = .ptr p.bb 0 1 ∧ s.get [true, true] = .ptr p.nw 0 38 ∧ s.get [false, false, false] = G i ∧ s.get [true, false, false] = .ptr H.size 0 38 ∧ s.get [false, false, true] = .ptr (H.size + 1) 0 2 ∧ s.get [false, true, false, false] = G p.n ∧ s.get [true, true, false, false] = G i ∧ s.get [false, false, false, false, true] = G ((i + 2 : Nat) : Int) ∧ s.get [true, false, false, false, true] = G ((m + 1 : Nat) : Int) ∧ h = X) from by
    have t : Tr tbl J (c70_o23) (fun s h => s.get [] = .yld p.l ∧ s.get [false] = .ptr p.bc 0 2 ∧ s.get [true] = .ptr p.bt 0 1 ∧ s.get [false, false] = .ptr p.bl 0 1 ∧ s.get [true, false] = .ptr p.bb 0 1 ∧ s.get [true, true] = .ptr p.nw 0 38 ∧ s.get [false, false, false] = G i ∧ s.get [true, false, false] = .ptr H.size 0 38 ∧ s.get [false, false, true] = .ptr (H.size + 1) 0 2 ∧ s.get [false, true, false, false] = G p.n ∧ s.get [true, true, false, false] = G i ∧ s.get [false, false, false, false, true] = G ((i + 2 : Nat) : Int) ∧ s.get [true, false, false, false, true] = G m ∧ h = X) .normal (fun s h => s.get [] = .yld p.l ∧ s.get [false] = .ptr p.bc 0 2 ∧ s.get [true] = .ptr p.bt 0 1 ∧ s.get [false, false] = .ptr p.bl 0 1 ∧ s.get [true, false] = .ptr p.bb 0 1 ∧ s.get [true, true] = .ptr p.nw 0 38 ∧ s.get [false, false, false] = G i ∧ s.get [true, false, false] = .ptr H.size 0 38 ∧ s.get [false, false, true] = .ptr (H.size + 1) 0 2 ∧ s.get [false, true, false, false] = G p.n ∧ s.get [true, true, false, false] = G i ∧ s.get [false, false, false, false, true] = G ((i + 2 : Nat) : Int) ∧ s.get [true, false, false, false, true] = G ((m + 1 : Nat) : Int) ∧ h = X) := Tr.region fun s h hp => by
      obtain ⟨g0, g1, g2, g3, g4, g5, g6, g7, g8, g9, g10, g11, g12, rfl⟩ := hp
      simp (disch := first | omega | exact getEq rfl | exact getO0 | exact Nat.le_of_ble_eq_true rfl) [c70_o23, came_some, goI, List.getElem?_cons_zero, List.getElem?_cons_succ, kn, keep, app_growP, app_noneP, plus_N, plus_at0, put_plus0, upd_N, upd_size, putAt, AV.cells, fillA, loadA, takeA, mk, Eff.isAll, Eff.isNone, Eff.commutes, Eff.spares, okPair, apart, eqAgg, fits, LK.fits, allEq, aveq, eqk, mmA, beqT, wrapI, idxI, tdivI, tmodI, decT, decF, ibT, ibF, inT, inF, evScope_c, if_pos, if_neg, g0, g1, g2, g3, g4, g5, g6, g7, g8, g9, g10, g11, g12]
    exact t)
  by_cases h1 : (m : Int) ≤ p.A i
  · rw [hp1 (.inl h1), if_pos h1, if_pos h1]
    have tc : Tr tbl J ((.block 6 (.seq c70_o17 (.cond (.s [true, false, false, false, false, false]) (.seq c70_o18 c70_o19) (.seq c70_o20 (.cond (.s [false, false, false, false, true, false]) (.seq c70_o21 c70_o22) .skip)))))) (fun s h => s.get [] = .yld p.l ∧ s.get [false] = .ptr p.bc 0 2 ∧ s.get [true] = .ptr p.bt 0 1 ∧ s.get [false, false] = .ptr p.bl 0 1 ∧ s.get [true, false] = .ptr p.bb 0 1 ∧ s.get [true, true] = .ptr p.nw 0 38 ∧ s.get [false, false, false] = G i ∧ s.get [true, false, false] = .ptr H.size 0 38 ∧ s.get [false, false, true] = .ptr (H.size + 1) 0 2 ∧ s.get [false, true, false, false] = G p.n ∧ s.get [true, true, false, false] = G i ∧ s.get [false, false, false, false, true] = G ((i + 2 : Nat) : Int) ∧ s.get [true, false, false, false, true] = G m ∧ s.get [true, false, true] = G m ∧ s.get [false, true, true] = G T ∧ h = H.plus [.cells 0 38 c0, .cells 0 2 [G y, G q]]) .normal (fun s h => s.get [] = .yld p.l ∧ s.get [false] = .ptr p.bc 0 2 ∧ s.get [true] = .ptr p.bt 0 1 ∧ s.get [false, false] = .ptr p.bl 0 1 ∧ s.get [true, false] = .ptr p.bb 0 1 ∧ s.get [true, true] = .ptr p.nw 0 38 ∧ s.get [false, false, false] = G i ∧ s.get [true, false, false] = .ptr H.size 0 38 ∧ s.get [false, false, true] = .ptr (H.size + 1) 0 2 ∧ s.get [false, true, false, false] = G p.n ∧ s.get [true, true, false, false] = G i ∧ s.get [false, false, false, false, true] = G ((i + 2 : Nat) : Int) ∧ s.get [true, false, false, false, true] = G m ∧ h = H.plus [.cells 0 38 (c0.set m (G 0)), .cells 0 2 [G ((y + T : Nat) : Int), G ((q + 0 : Nat) : Int)]]) := Tr.region fun s h hp => by
      obtain ⟨g0, g1, g2, g3, g4, g5, g6, g7, g8, g9, g10, g11, g12, g13, g14, rfl⟩ := hp
      simp (disch := first | omega | exact getEq rfl | exact getO0 | exact Nat.le_of_ble_eq_true rfl) [c70_o17, c70_o18, c70_o19, came_some, goI, List.getElem?_cons_zero, List.getElem?_cons_succ, kn, keep, app_growP, app_noneP, plus_N, plus_at0, put_plus0, upd_N, upd_size, putAt, AV.cells, fillA, loadA, takeA, mk, Eff.isAll, Eff.isNone, Eff.commutes, Eff.spares, okPair, apart, eqAgg, fits, LK.fits, allEq, aveq, eqk, mmA, beqT, wrapI, idxI, tdivI, tmodI, decT, decF, ibT, ibF, inT, inF, evScope_c, if_pos, if_neg, g0, g1, g2, g3, g4, g5, g6, g7, g8, g9, g10, g11, g12, g13, g14, fx1, fx2, xa, h1, v1, u1, u0]
    exact Tr.trim_assoc (Tr.trim_seq ta (Tr.seq (Tr.block_out (Tr.app2 tb tc) (by simp)) (te _)))
  · rw [if_neg h1, if_neg h1]
    by_cases h2 : p.R i ≤ m
    · rw [hp1 (.inr h2), if_pos h2]
      have tc : Tr tbl J ((.block 6 (.seq c70_o17 (.cond (.s [true, false, false, false, false, false]) (.seq c70_o18 c70_o19) (.seq c70_o20 (.cond (.s [false, false, false, false, true, false]) (.seq c70_o21 c70_o22) .skip)))))) (fun s h => s.get [] = .yld p.l ∧ s.get [false] = .ptr p.bc 0 2 ∧ s.get [true] = .ptr p.bt 0 1 ∧ s.get [false, false] = .ptr p.bl 0 1 ∧ s.get [true, false] = .ptr p.bb 0 1 ∧ s.get [true, true] = .ptr p.nw 0 38 ∧ s.get [false, false, false] = G i ∧ s.get [true, false, false] = .ptr H.size 0 38 ∧ s.get [false, false, true] = .ptr (H.size + 1) 0 2 ∧ s.get [false, true, false, false] = G p.n ∧ s.get [true, true, false, false] = G i ∧ s.get [false, false, false, false, true] = G ((i + 2 : Nat) : Int) ∧ s.get [true, false, false, false, true] = G m ∧ s.get [true, false, true] = G m ∧ s.get [false, true, true] = G T ∧ h = H.plus [.cells 0 38 c0, .cells 0 2 [G y, G q]]) .normal (fun s h => s.get [] = .yld p.l ∧ s.get [false] = .ptr p.bc 0 2 ∧ s.get [true] = .ptr p.bt 0 1 ∧ s.get [false, false] = .ptr p.bl 0 1 ∧ s.get [true, false] = .ptr p.bb 0 1 ∧ s.get [true, true] = .ptr p.nw 0 38 ∧ s.get [false, false, false] = G i ∧ s.get [true, false, false] = .ptr H.size 0 38 ∧ s.get [false, false, true] = .ptr (H.size + 1) 0 2 ∧ s.get [false, true, false, false] = G p.n ∧ s.get [true, true, false, false] = G i ∧ s.get [false, false, false, false, true] = G ((i + 2 : Nat) : Int) ∧ s.get [true, false, false, false, true] = G m ∧ h = H.plus [.cells 0 38 (c0.set m (G 0)), .cells 0 2 [G ((y + 0 : Nat) : Int), G ((q + T : Nat) : Int)]]) := Tr.region fun s h hp => by
        obtain ⟨g0, g1, g2, g3, g4, g5, g6, g7, g8, g9, g10, g11, g12, g13, g14, rfl⟩ := hp
        simp (disch := first | omega | exact getEq rfl | exact getO0 | exact Nat.le_of_ble_eq_true rfl) [c70_o17, c70_o20, c70_o21, c70_o22, came_some, goI, List.getElem?_cons_zero, List.getElem?_cons_succ, kn, keep, app_growP, app_noneP, plus_N, plus_at0, put_plus0, upd_N, upd_size, putAt, AV.cells, fillA, loadA, takeA, mk, Eff.isAll, Eff.isNone, Eff.commutes, Eff.spares, okPair, apart, eqAgg, fits, LK.fits, allEq, aveq, eqk, mmA, beqT, wrapI, idxI, tdivI, tmodI, decT, decF, ibT, ibF, inT, inF, evScope_c, if_pos, if_neg, g0, g1, g2, g3, g4, g5, g6, g7, g8, g9, g10, g11, g12, g13, g14, fx1, fx2, fx3, xa, xr, h1, h2, v1, u1, u0]
      exact Tr.trim_assoc (Tr.trim_seq ta (Tr.seq (Tr.block_out (Tr.app2 tb tc) (by simp)) (te _)))
    · rw [hp2 h1 h2, if_neg h2]
      have tc : Tr tbl J ((.block 6 (.seq c70_o17 (.cond (.s [true, false, false, false, false, false]) (.seq c70_o18 c70_o19) (.seq c70_o20 (.cond (.s [false, false, false, false, true, false]) (.seq c70_o21 c70_o22) .skip)))))) (fun s h => s.get [] = .yld p.l ∧ s.get [false] = .ptr p.bc 0 2 ∧ s.get [true] = .ptr p.bt 0 1 ∧ s.get [false, false] = .ptr p.bl 0 1 ∧ s.get [true, false] = .ptr p.bb 0 1 ∧ s.get [true, true] = .ptr p.nw 0 38 ∧ s.get [false, false, false] = G i ∧ s.get [true, false, false] = .ptr H.size 0 38 ∧ s.get [false, false, true] = .ptr (H.size + 1) 0 2 ∧ s.get [false, true, false, false] = G p.n ∧ s.get [true, true, false, false] = G i ∧ s.get [false, false, false, false, true] = G ((i + 2 : Nat) : Int) ∧ s.get [true, false, false, false, true] = G m ∧ s.get [true, false, true] = G m ∧ s.get [false, true, true] = G T ∧ h = H.plus [.cells 0 38 c0, .cells 0 2 [G y, G q]]) .normal (fun s h => s.get [] = .yld p.l ∧ s.get [false] = .ptr p.bc 0 2 ∧ s.get [true] = .ptr p.bt 0 1 ∧ s.get [false, false] = .ptr p.bl 0 1 ∧ s.get [true, false] = .ptr p.bb 0 1 ∧ s.get [true, true] = .ptr p.nw 0 38 ∧ s.get [false, false, false] = G i ∧ s.get [true, false, false] = .ptr H.size 0 38 ∧ s.get [false, false, true] = .ptr (H.size + 1) 0 2 ∧ s.get [false, true, false, false] = G p.n ∧ s.get [true, true, false, false] = G i ∧ s.get [false, false, false, false, true] = G ((i + 2 : Nat) : Int) ∧ s.get [true, false, false, false, true] = G m ∧ h = H.plus [.cells 0 38 c0, .cells 0 2 [G ((y + 0 : Nat) : Int), G ((q + 0 : Nat) : Int)]]) := Tr.region fun s h hp => by
        obtain ⟨g0, g1, g2, g3, g4, g5, g6, g7, g8, g9, g10, g11, g12, g13, g14, rfl⟩ := hp
        simp (disch := first | omega | exact getEq rfl | exact getO0 | exact Nat.le_of_ble_eq_true rfl) [c70_o17, c70_o20, came_some, goI, List.getElem?_cons_zero, List.getElem?_cons_succ, kn, keep, app_growP, app_noneP, plus_N, plus_at0, put_plus0, upd_N, upd_size, putAt, AV.cells, fillA, loadA, takeA, mk, Eff.isAll, Eff.isNone, Eff.commutes, Eff.spares, okPair, apart, eqAgg, fits, LK.fits, allEq, aveq, eqk, mmA, beqT, wrapI, idxI, tdivI, tmodI, decT, decF, ibT, ibF, inT, inF, evScope_c, if_pos, if_neg, g0, g1, g2, g3, g4, g5, g6, g7, g8, g9, g10, g11, g12, g13, g14, fx1, fx2, fx3, xa, xr, h1, h2, v1]
      exact Tr.trim_assoc (Tr.trim_seq ta (Tr.seq (Tr.block_out (Tr.app2 tb tc) (by simp)) (te _)))
theorem st_b_end (J : CallF) (hi : i < 36) (X : Heap) : Tr tbl J (.trim L70k c70_b1) (fun s h => s.get [] = .yld p.l ∧ s.get [false] = .ptr p.bc 0 2 ∧ s.get [true] = .ptr p.bt 0 1 ∧ s.get [false, false] = .ptr p.bl 0 1 ∧ s.get [true, false] = .ptr p.bb 0 1 ∧ s.get [true, true] = .ptr p.nw 0 38 ∧ s.get [false, false, false] = G i ∧ s.get [true, false, false] = .ptr H.size 0 38 ∧ s.get [false, false, true] = .ptr (H.size + 1) 0 2 ∧ s.get [false, true, false, false] = G p.n ∧ s.get [true, true, false, false] = G i ∧ s.get [false, false, false, false, true] = G ((i + 2 : Nat) : Int) ∧ s.get [true, false, false, false, true] = G ((i + 2 : Nat) : Int) ∧ h = X) (.exit 4) (fun s h => s.get [] = .yld p.l ∧ s.get [false] = .ptr p.bc 0 2 ∧ s.get [true] = .ptr p.bt 0 1 ∧ s.get [false, false] = .ptr p.bl 0 1 ∧ s.get [true, false] = .ptr p.bb 0 1 ∧ s.get [true, true] = .ptr p.nw 0 38 ∧ s.get [false, false, false] = G i ∧ s.get [true, false, false] = .ptr H.size 0 38 ∧ s.get [false, false, true] = .ptr (H.size + 1) 0 2 ∧ s.get [false, true, false, false] = G p.n ∧ s.get [true, true, false, false] = G i ∧ h = X) := by
  have t : Tr tbl J ((.trim L70k c70_b1)) (fun s h => s.get [] = .yld p.l ∧ s.get [false] = .ptr p.bc 0 2 ∧ s.get [true] = .ptr p.bt 0 1 ∧ s.get [false, false] = .ptr p.bl 0 1 ∧ s.get [true, false] = .ptr p.bb 0 1 ∧ s.get [true, true] = .ptr p.nw 0 38 ∧ s.get [false, false, false] = G i ∧ s.get [true, false, false] = .ptr H.size 0 38 ∧ s.get [false, false, true] = .ptr (H.size + 1) 0 2 ∧ s.get [false, true, false, false] = G p.n ∧ s.get [true, true, false, false] = G i ∧ s.get [false, false, false, false, true] = G ((i + 2 : Nat) : Int) ∧ s.get [true, false, false, false, true] = G ((i + 2 : Nat) : Int) ∧ h = X) (.exit 4) (fun s h => s.get [] = .yld p.l ∧ s.get [false] = .ptr p.bc 0 2 ∧ s.get [true] = .ptr p.bt 0 1 ∧ s.get [false, false] = .ptr p.bl 0 1 ∧ s.get [true, false] = .ptr p.bb 0 1 ∧ s.get [true, true] = .ptr p.nw 0 38 ∧ s.get [false, false, false] = G i ∧ s.get [true, false, false] = .ptr H.size 0 38 ∧ s.get [false, false, true] = .ptr (H.size + 1) 0 2 ∧ s.get [false, true, false, false] = G p.n ∧ s.get [true, true, false, false] = G i ∧ h = X) := Tr.region fun s h hp => by
    obtain ⟨g0, g1, g2, g3, g4, g5, g6, g7, g8, g9, g10, g11, g12, rfl⟩ := hp
    simp (disch := first | omega | exact getEq rfl | exact getO0 | exact Nat.le_of_ble_eq_true rfl) [c70_b1, c70_o14, came_some, goI, List.getElem?_cons_zero, List.getElem?_cons_succ, kn, keep, app_growP, app_noneP, plus_N, plus_at0, put_plus0, upd_N, upd_size, putAt, AV.cells, fillA, loadA, takeA, mk, Eff.isAll, Eff.isNone, Eff.commutes, Eff.spares, okPair, apart, eqAgg, fits, LK.fits, allEq, aveq, eqk, mmA, beqT, wrapI, idxI, tdivI, tmodI, decT, decF, ibT, ibF, inT, inF, evScope_c, if_pos, if_neg, g0, g1, g2, g3, g4, g5, g6, g7, g8, g9, g10, g11, g12]
  exact t

/-! ### A whole round -/
theorem putAt_all : ∀ (cs ds : List AV) (pre : List AV), ds.length = cs.length → putAt (pre ++ ds) pre.length cs = pre ++ cs
  | [], ds, pre, h => by obtain rfl : ds = [] := List.length_eq_zero_iff.1 h; rfl
  | c :: cs, [], pre, h => by simp at h
  | c :: cs, d :: ds, pre, h => by
    show putAt ((pre ++ d :: ds).set pre.length c) (pre.length + 1) cs = _
    rw [List.set_append_right _ _ (Nat.le_refl _), Nat.sub_self, List.set_cons_zero]
    have := putAt_all cs ds (pre ++ [c]) (by simpa using h)
    simpa using this
theorem putAt_full (cs ds : List AV) (h : ds.length = cs.length) : putAt ds 0 cs = cs := by
  have := putAt_all cs ds [] h
  simpa using this
theorem app_allP (h : Heap) (own : List AObj) : Eff.app (.all own) h = some ⟨h.lo, h.N, own⟩ := by simp [Eff.app, forceL_eq]
theorem takeA_all (cs : List AV) (n : Nat) (h : cs.length = n) : takeA (some n) cs 0 = some (.agg cs) := by
  subst h; simp [takeA]
abbrev L70o : List Path := [[], [false], [true], [false, false], [true, false], [true, true], [false, true, false, false], [true, true, false, false]]
abbrev X70 (p : Gp) (H : Heap) (i : Nat) : Heap := (H.plus [nwC (dnN p.A p.R i (i + 2)), .cells 0 2 [G (yC p.lot p.bad p.A p.R i), G (nC p.lot p.bad p.A p.R i)]]).upd p.nw (nwC (opn p.A p.R (i + 1)))

/-- From the beginning of a round to the visit. -/
theorem st_round (J : CallF) (K : Kn J) (g : GH p) (hi : i < p.n) (hf : GF p H) (hw : H.get p.nw = nwC (opn p.A p.R i)) (hN : H.N ≤ p.nw) :
    Tr tbl J (.seq c70_o4 (.seq c70_o5 (.seq (.seq c70_o6 (.block 2 c70_l0)) (.seq c70_o12 (.seq (.seq c70_o13 (.block 4 c70_l1)) c70_o24))))) (fun s h => s.get [] = .yld p.l ∧ s.get [false] = .ptr p.bc 0 2 ∧ s.get [true] = .ptr p.bt 0 1 ∧ s.get [false, false] = .ptr p.bl 0 1 ∧ s.get [true, false] = .ptr p.bb 0 1 ∧ s.get [true, true] = .ptr p.nw 0 38 ∧ s.get [false, true, false, false] = G p.n ∧ s.get [true, true, false, false] = G i ∧ h = H) .normal (fun s h => s.get [] = .yld p.l ∧ s.get [false] = .ptr p.bc 0 2 ∧ s.get [true] = .ptr p.bt 0 1 ∧ s.get [false, false] = .ptr p.bl 0 1 ∧ s.get [true, false] = .ptr p.bb 0 1 ∧ s.get [true, true] = .ptr p.nw 0 38 ∧ s.get [false, false, false] = G i ∧ s.get [false, false, true] = .ptr (H.size + 1) 0 2 ∧ s.get [false, true, false, false] = G p.n ∧ s.get [true, true, false, false] = G i ∧ h = X70 p H i) := by
  have n2 := g.n2
  have l2 := g.l2
  have hi36 : i < 36 := by omega
  have hlt := get_lt hw (by simp)
  have t4 : Tr tbl J ((.seq c70_o4 c70_o5)) (fun s h => s.get [] = .yld p.l ∧ s.get [false] = .ptr p.bc 0 2 ∧ s.get [true] = .ptr p.bt 0 1 ∧ s.get [false, false] = .ptr p.bl 0 1 ∧ s.get [true, false] = .ptr p.bb 0 1 ∧ s.get [true, true] = .ptr p.nw 0 38 ∧ s.get [false, true, false, false] = G p.n ∧ s.get [true, true, false, false] = G i ∧ h = H) .normal (fun s h => s.get [] = .yld p.l ∧ s.get [false] = .ptr p.bc 0 2 ∧ s.get [true] = .ptr p.bt 0 1 ∧ s.get [false, false] = .ptr p.bl 0 1 ∧ s.get [true, false] = .ptr p.bb 0 1 ∧ s.get [true, true] = .ptr p.nw 0 38 ∧ s.get [false, false, false] = G i ∧ s.get [true, false, false] = .ptr H.size 0 38 ∧ s.get [false, true, false, false] = G p.n ∧ s.get [true, true, false, false] = G i ∧ h = H.plus [nwC (cpN (opn p.A p.R i) 0)]) := Tr.region fun s h hp => by
    obtain ⟨g0, g1, g2, g3, g4, g5, g6, g7, rfl⟩ := hp
    have e0 : nwC (cpN (opn p.A p.R i) 0) = .cells 0 38 (List.replicate 38 (G 0)) := by rw [zs_rep]; exact nwC_ext (g := fun _ => 0) (cpN_0 _)
    rw [e0]
    simp (disch := first | omega | exact getEq rfl | exact getO0 | exact Nat.le_of_ble_eq_true rfl) [c70_o4, c70_o5, came_some, goI, List.getElem?_cons_zero, List.getElem?_cons_succ, kn, keep, app_growP, app_noneP, plus_N, plus_at0, put_plus0, upd_N, upd_size, putAt, AV.cells, fillA, loadA, takeA, mk, Eff.isAll, Eff.isNone, Eff.commutes, Eff.spares, okPair, apart, eqAgg, fits, LK.fits, allEq, aveq, eqk, mmA, beqT, wrapI, idxI, tdivI, tmodI, decT, decF, ibT, ibF, inT, inF, evScope_c, if_pos, if_neg, g0, g1, g2, g3, g4, g5, g6, g7, List.length_replicate]
  have w1 : ∀ xs, (H.plus xs).get p.nw = nwC (opn p.A p.R i) := fun xs => plus_keep xs hw (by simp)
  have t6 : Tr tbl J (c70_o6) (fun s h => s.get [] = .yld p.l ∧ s.get [false] = .ptr p.bc 0 2 ∧ s.get [true] = .ptr p.bt 0 1 ∧ s.get [false, false] = .ptr p.bl 0 1 ∧ s.get [true, false] = .ptr p.bb 0 1 ∧ s.get [true, true] = .ptr p.nw 0 38 ∧ s.get [false, false, false] = G i ∧ s.get [true, false, false] = .ptr H.size 0 38 ∧ s.get [false, true, false, false] = G p.n ∧ s.get [true, true, false, false] = G i ∧ h = H.plus [nwC (cpN (opn p.A p.R i) 0)]) .normal (fun s h => s.get [] = .yld p.l ∧ s.get [false] = .ptr p.bc 0 2 ∧ s.get [true] = .ptr p.bt 0 1 ∧ s.get [false, false] = .ptr p.bl 0 1 ∧ s.get [true, false] = .ptr p.bb 0 1 ∧ s.get [true, true] = .ptr p.nw 0 38 ∧ s.get [false, false, false] = G i ∧ s.get [true, false, false] = .ptr H.size 0 38 ∧ s.get [false, true, false, false] = G p.n ∧ s.get [true, true, false, false] = G i ∧ s.get [false, false, false, true] = .slice p.nw 0 (i + 1) 38 ∧ s.get [true, false, false, true] = G ((i + 1 : Nat) : Int) ∧ s.get [false, true, false, true] = G ((0 : Nat) : Int) ∧ h = H.plus [nwC (cpN (opn p.A p.R i) 0)]) := Tr.region fun s h hp => by
    obtain ⟨g0, g1, g2, g3, g4, g5, g6, g7, g8, g9, rfl⟩ := hp
    simp (disch := first | omega | exact getEq rfl | exact getO0 | exact Nat.le_of_ble_eq_true rfl) [c70_o6, came_some, goI, List.getElem?_cons_zero, List.getElem?_cons_succ, kn, keep, app_growP, app_noneP, plus_N, plus_at0, put_plus0, upd_N, upd_size, putAt, AV.cells, fillA, loadA, takeA, mk, Eff.isAll, Eff.isNone, Eff.commutes, Eff.spares, okPair, apart, eqAgg, fits, LK.fits, allEq, aveq, eqk, mmA, beqT, wrapI, idxI, tdivI, tmodI, decT, decF, ibT, ibF, inT, inF, evScope_c, if_pos, if_neg, g0, g1, g2, g3, g4, g5, g6, g7, g8, g9, bounds, w1]
  have ta := Tr.rounds (P := fun m => (fun s h => s.get [] = .yld p.l ∧ s.get [false] = .ptr p.bc 0 2 ∧ s.get [true] = .ptr p.bt 0 1 ∧ s.get [false, false] = .ptr p.bl 0 1 ∧ s.get [true, false] = .ptr p.bb 0 1 ∧ s.get [true, true] = .ptr p.nw 0 38 ∧ s.get [false, false, false] = G i ∧ s.get [true, false, false] = .ptr H.size 0 38 ∧ s.get [false, true, false, false] = G p.n ∧ s.get [true, true, false, false] = G i ∧ s.get [false, false, false, true] = .slice p.nw 0 (i + 1) 38 ∧ s.get [true, false, false, true] = G ((i + 1 : Nat) : Int) ∧ s.get [false, true, false, true] = G m ∧ h = H.plus [nwC (cpN (opn p.A p.R i) m)])) (M := i + 1) (fun m hm => st_a (p := p) J hi36 _ (opn_big _ _ (by omega)) m (by omega) hw (by omega)) (st_a_end J hi36 _) (by simp) 0 (by omega)
  rw [nwC_ext (cpN_end p.A p.R i)] at ta
  have t12 : Tr tbl J (c70_o12) (fun s h => s.get [] = .yld p.l ∧ s.get [false] = .ptr p.bc 0 2 ∧ s.get [true] = .ptr p.bt 0 1 ∧ s.get [false, false] = .ptr p.bl 0 1 ∧ s.get [true, false] = .ptr p.bb 0 1 ∧ s.get [true, true] = .ptr p.nw 0 38 ∧ s.get [false, false, false] = G i ∧ s.get [true, false, false] = .ptr H.size 0 38 ∧ s.get [false, true, false, false] = G p.n ∧ s.get [true, true, false, false] = G i ∧ h = H.plus [nwC (nx (opn p.A p.R i))]) .normal (fun s h => s.get [] = .yld p.l ∧ s.get [false] = .ptr p.bc 0 2 ∧ s.get [true] = .ptr p.bt 0 1 ∧ s.get [false, false] = .ptr p.bl 0 1 ∧ s.get [true, false] = .ptr p.bb 0 1 ∧ s.get [true, true] = .ptr p.nw 0 38 ∧ s.get [false, false, false] = G i ∧ s.get [true, false, false] = .ptr H.size 0 38 ∧ s.get [false, false, true] = .ptr (H.size + 1) 0 2 ∧ s.get [false, true, false, false] = G p.n ∧ s.get [true, true, false, false] = G i ∧ h = H.plus [nwC (nx (opn p.A p.R i)), .cells 0 2 [G 0, G 0]]) := Tr.region fun s h hp => by
    obtain ⟨g0, g1, g2, g3, g4, g5, g6, g7, g8, g9, rfl⟩ := hp
    simp (disch := first | omega | exact getEq rfl | exact getO0 | exact Nat.le_of_ble_eq_true rfl) [c70_o12, came_some, goI, List.getElem?_cons_zero, List.getElem?_cons_succ, kn, keep, app_growP, app_noneP, plus_N, plus_at0, put_plus0, upd_N, upd_size, putAt, AV.cells, fillA, loadA, takeA, mk, Eff.isAll, Eff.isNone, Eff.commutes, Eff.spares, okPair, apart, eqAgg, fits, LK.fits, allEq, aveq, eqk, mmA, beqT, wrapI, idxI, tdivI, tmodI, decT, decF, ibT, ibF, inT, inF, evScope_c, if_pos, if_neg, g0, g1, g2, g3, g4, g5, g6, g7, g8, g9, plus_plus, plus_size]
  have t13 : Tr tbl J (c70_o13) (fun s h => s.get [] = .yld p.l ∧ s.get [false] = .ptr p.bc 0 2 ∧ s.get [true] = .ptr p.bt 0 1 ∧ s.get [false, false] = .ptr p.bl 0 1 ∧ s.get [true, false] = .ptr p.bb 0 1 ∧ s.get [true, true] = .ptr p.nw 0 38 ∧ s.get [false, false, false] = G i ∧ s.get [true, false, false] = .ptr H.size 0 38 ∧ s.get [false, false, true] = .ptr (H.size + 1) 0 2 ∧ s.get [false, true, false, false] = G p.n ∧ s.get [true, true, false, false] = G i ∧ h = H.plus [nwC (nx (opn p.A p.R i)), .cells 0 2 [G 0, G 0]]) .normal (fun s h => s.get [] = .yld p.l ∧ s.get [false] = .ptr p.bc 0 2 ∧ s.get [true] = .ptr p.bt 0 1 ∧ s.get [false, false] = .ptr p.bl 0 1 ∧ s.get [true, false] = .ptr p.bb 0 1 ∧ s.get [true, true] = .ptr p.nw 0 38 ∧ s.get [false, false, false] = G i ∧ s.get [true, false, false] = .ptr H.size 0 38 ∧ s.get [false, false, true] = .ptr (H.size + 1) 0 2 ∧ s.get [false, true, false, false] = G p.n ∧ s.get [true, true, false, false] = G i ∧ s.get [false, false, false, false, true] = G ((i + 2 : Nat) : Int) ∧ s.get [true, false, false, false, true] = G ((0 : Nat) : Int) ∧ h = H.plus [nwC (nx (opn p.A p.R i)), .cells 0 2 [G 0, G 0]]) := Tr.region fun s h hp => by
    obtain ⟨g0, g1, g2, g3, g4, g5, g6, g7, g8, g9, g10, rfl⟩ := hp
    simp (disch := first | omega | exact getEq rfl | exact getO0 | exact Nat.le_of_ble_eq_true rfl) [c70_o13, came_some, goI, List.getElem?_cons_zero, List.getElem?_cons_succ, kn, keep, app_growP, app_noneP, plus_N, plus_at0, put_plus0, upd_N, upd_size, putAt, AV.cells, fillA, loadA, takeA, mk, Eff.isAll, Eff.isNone, Eff.commutes, Eff.spares, okPair, apart, eqAgg, fits, LK.fits, allEq, aveq, eqk, mmA, beqT, wrapI, idxI, tdivI, tmodI, decT, decF, ibT, ibF, inT, inF, evScope_c, if_pos, if_neg, g0, g1, g2, g3, g4, g5, g6, g7, g8, g9, g10, bounds]
    omega
  have ed : nwC (nx (opn p.A p.R i)) = nwC (dnN p.A p.R i 0) := (nwC_ext (dnN_0 p.A p.R i)).symm
  rw [ed] at t13 t12 ta
  have tb := Tr.rounds (P := fun m => (fun s h => s.get [] = .yld p.l ∧ s.get [false] = .ptr p.bc 0 2 ∧ s.get [true] = .ptr p.bt 0 1 ∧ s.get [false, false] = .ptr p.bl 0 1 ∧ s.get [true, false] = .ptr p.bb 0 1 ∧ s.get [true, true] = .ptr p.nw 0 38 ∧ s.get [false, false, false] = G i ∧ s.get [true, false, false] = .ptr H.size 0 38 ∧ s.get [false, false, true] = .ptr (H.size + 1) 0 2 ∧ s.get [false, true, false, false] = G p.n ∧ s.get [true, true, false, false] = G i ∧ s.get [false, false, false, false, true] = G ((i + 2 : Nat) : Int) ∧ s.get [true, false, false, false, true] = G m ∧ h = H.plus [nwC (dnN p.A p.R i m), .cells 0 2 [G (yS p.lot p.bad p.A p.R i m), G (nS p.lot p.bad p.A p.R i m)]])) (M := i + 2) (fun m hm => st_b J K g hi hf m (by omega)) (st_b_end J hi36 _) (by simp) 0 (by omega)
  have y0 : yS p.lot p.bad p.A p.R i (i + 2) = yC p.lot p.bad p.A p.R i := rfl
  have n0 : nS p.lot p.bad p.A p.R i (i + 2) = nC p.lot p.bad p.A p.R i := rfl
  rw [y0, n0] at tb
  have ex : nwC (opn p.A p.R (i + 1)) = nwC (dnN p.A p.R i (i + 2)) := (nwC_ext (dnN_end p.A p.R i)).symm
  obtain ⟨c2, hc2⟩ : ∃ c, zs (fun k => (dnN p.A p.R i (i + 2) k : Int)) 38 = c := ⟨_, rfl⟩
  have l2' : c2.length = 38 := by rw [← hc2, zs_len]
  obtain ⟨d, hd⟩ : ∃ c, (.cells 0 2 [G (yC p.lot p.bad p.A p.R i), G (nC p.lot p.bad p.A p.R i)] : AObj) = c := ⟨_, rfl⟩
  have et : c2.take 38 = c2 := List.take_of_length_le (by omega)
  have ep : Eff.app (.put p.nw 38 0 c2) (H.plus [.cells 0 38 c2, d]) = some ((H.plus [.cells 0 38 c2, d]).upd p.nw (.cells 0 38 c2)) := by
    rw [put_gen (H.plus [.cells 0 38 c2, d]) p.nw 38 0 0 (zs (fun k => (opn p.A p.R i k : Int)) 38) c2 hN (w1 _) (by rw [zs_len]; omega), putAt_full _ _ (by rw [zs_len]; omega)]
  have ex2 : X70 p H i = (H.plus [.cells 0 38 c2, d]).upd p.nw (.cells 0 38 c2) := by unfold X70; rw [ex, hd, nwC, hc2]
  have t24 : Tr tbl J (c70_o24) (fun s h => s.get [] = .yld p.l ∧ s.get [false] = .ptr p.bc 0 2 ∧ s.get [true] = .ptr p.bt 0 1 ∧ s.get [false, false] = .ptr p.bl 0 1 ∧ s.get [true, false] = .ptr p.bb 0 1 ∧ s.get [true, true] = .ptr p.nw 0 38 ∧ s.get [false, false, false] = G i ∧ s.get [true, false, false] = .ptr H.size 0 38 ∧ s.get [false, false, true] = .ptr (H.size + 1) 0 2 ∧ s.get [false, true, false, false] = G p.n ∧ s.get [true, true, false, false] = G i ∧ h = H.plus [.cells 0 38 c2, d]) .normal (fun s h => s.get [] = .yld p.l ∧ s.get [false] = .ptr p.bc 0 2 ∧ s.get [true] = .ptr p.bt 0 1 ∧ s.get [false, false] = .ptr p.bl 0 1 ∧ s.get [true, false] = .ptr p.bb 0 1 ∧ s.get [true, true] = .ptr p.nw 0 38 ∧ s.get [false, false, false] = G i ∧ s.get [false, false, true] = .ptr (H.size + 1) 0 2 ∧ s.get [false, true, false, false] = G p.n ∧ s.get [true, true, false, false] = G i ∧ h = (H.plus [.cells 0 38 c2, d]).upd p.nw (.cells 0 38 c2)) := Tr.region fun s h hp => by
    obtain ⟨g0, g1, g2, g3, g4, g5, g6, g7, g8, g9, g10, rfl⟩ := hp
    simp (disch := first | omega | exact getEq rfl | exact getO0 | exact Nat.le_of_ble_eq_true rfl) [c70_o24, came_some, goI, List.getElem?_cons_zero, List.getElem?_cons_succ, kn, keep, app_growP, app_noneP, plus_N, plus_at0, put_plus0, upd_N, upd_size, putAt, AV.cells, fillA, loadA, takeA, mk, Eff.isAll, Eff.isNone, Eff.commutes, Eff.spares, okPair, apart, eqAgg, fits, LK.fits, allEq, aveq, eqk, mmA, beqT, wrapI, idxI, tdivI, tmodI, decT, decF, ibT, ibF, inT, inF, evScope_c, if_pos, if_neg, g0, g1, g2, g3, g4, g5, g6, g7, g8, g9, g10, et, ep, l2']
  rw [ex2]
  have ex3 : nwC (dnN p.A p.R i (i + 2)) = .cells 0 38 c2 := by unfold nwC; rw [hc2]
  rw [ex3, hd] at tb
  exact Tr.app2 t4 (Tr.seq (Tr.seq t6 (Tr.block ta)) (Tr.seq t12 (Tr.seq (Tr.seq t13 (Tr.block tb)) t24)))

/-! ### The one that takes -/
structure Feed (J : CallF) (p : Gp) (M : Nat → Prop) (Inv : Nat → Heap → Prop) : Prop where
  step : ∀ i h, i < p.n → Inv i h → ∃ own, CallsTo tbl J 0 [.yld p.l, G ((i + 1 : Nat) : Int), .agg [G (yC p.lot p.bad p.A p.R i), G (nC p.lot p.bad p.A p.R i)]] h (.bool true, own, true) ∧ Kp M h ⟨h.lo, h.N, own⟩ ∧ Inv (i + 1) ⟨h.lo, h.N, own⟩
  pass : ∀ i h h', Inv i h → Kp (· = p.nw) h h' → Inv i h'
  av : Av p M
  nw : ¬ M p.nw

structure WI (p : Gp) (Inv : Nat → Heap → Prop) (i : Nat) (h : Heap) : Prop where
  f : GF p h
  w : h.get p.nw = nwC (opn p.A p.R i)
  N : h.N ≤ p.nw
  inv : Inv i h
abbrev P70 (p : Gp) (Inv : Nat → Heap → Prop) (i : Nat) : SP := fun s h => ((fun s h => s.get [] = .yld p.l ∧ s.get [false] = .ptr p.bc 0 2 ∧ s.get [true] = .ptr p.bt 0 1 ∧ s.get [false, false] = .ptr p.bl 0 1 ∧ s.get [true, false] = .ptr p.bb 0 1 ∧ s.get [true, true] = .ptr p.nw 0 38 ∧ s.get [false, true, false, false] = G p.n ∧ s.get [true, true, false, false] = G i) : SP) s h ∧ WI p Inv i h

theorem st_yield (J : CallF) (hi : i < p.n) (hn : p.n ≤ 36) {y z : Int} {own : List AObj} (X : Heap) (sb : Nat) (x1 : X.get sb = .cells 0 2 [G y, G z]) (hc : CallsTo tbl J 0 [.yld p.l, G ((i + 1 : Nat) : Int), .agg [G y, G z]] X (.bool true, own, true)) :
    Tr tbl J (.seq c70_o25 (.cond (.s [false, true, true, false, false, true]) .ret .skip)) (fun s h => s.get [] = .yld p.l ∧ s.get [false] = .ptr p.bc 0 2 ∧ s.get [true] = .ptr p.bt 0 1 ∧ s.get [false, false] = .ptr p.bl 0 1 ∧ s.get [true, false] = .ptr p.bb 0 1 ∧ s.get [true, true] = .ptr p.nw 0 38 ∧ s.get [false, false, false] = G i ∧ s.get [false, false, true] = .ptr sb 0 2 ∧ s.get [false, true, false, false] = G p.n ∧ s.get [true, true, false, false] = G i ∧ h = X) .normal (fun s h => s.get [] = .yld p.l ∧ s.get [false] = .ptr p.bc 0 2 ∧ s.get [true] = .ptr p.bt 0 1 ∧ s.get [false, false] = .ptr p.bl 0 1 ∧ s.get [true, false] = .ptr p.bb 0 1 ∧ s.get [true, true] = .ptr p.nw 0 38 ∧ s.get [false, true, false, false] = G p.n ∧ s.get [true, true, false, false] = G i ∧ h = ⟨X.lo, X.N, own⟩) := Tr.fuel fun s h hp => by
  obtain ⟨k, hk⟩ := hc
  refine ⟨k, ?_⟩
  rw [show ((i + 1 : Nat) : Int) = (i : Int) + 1 by omega] at hk
  obtain ⟨g0, g1, g2, g3, g4, g5, g6, g7, g8, g9, rfl⟩ := hp
  simp (disch := first | omega | exact getEq rfl | exact getO0 | exact Nat.le_of_ble_eq_true rfl) [c70_o25, came_some, goI, List.getElem?_cons_zero, List.getElem?_cons_succ, kn, keep, app_growP, app_noneP, plus_N, plus_at0, put_plus0, upd_N, upd_size, putAt, AV.cells, fillA, loadA, takeA, mk, Eff.isAll, Eff.isNone, Eff.commutes, Eff.spares, okPair, apart, eqAgg, fits, LK.fits, allEq, aveq, eqk, mmA, beqT, wrapI, idxI, tdivI, tmodI, decT, decF, ibT, ibF, inT, inF, evScope_c, if_pos, if_neg, g0, g1, g2, g3, g4, g5, g6, g7, g8, g9, x1, hk, app_allP]

theorem st_step (J : CallF) (K : Kn J) (g : GH p) {M : Nat → Prop} {Inv : Nat → Heap → Prop} (f : Feed J p M Inv) (hi : i < p.n) : Tr tbl J (.trim L70o c70_b2) (P70 p Inv i) .normal (P70 p Inv (i + 1)) := fun s H hp => by
  obtain ⟨hs, w⟩ := hp
  have n2 := g.n2
  have l2 := g.l2
  have hlt := get_lt w.w (by simp)
  have t3 : Tr tbl J ((.trim L70o (.seq c70_o3 (.cond (.s [false, false, true, false]) .skip (.exit 0))))) (fun s h => s.get [] = .yld p.l ∧ s.get [false] = .ptr p.bc 0 2 ∧ s.get [true] = .ptr p.bt 0 1 ∧ s.get [false, false] = .ptr p.bl 0 1 ∧ s.get [true, false] = .ptr p.bb 0 1 ∧ s.get [true, true] = .ptr p.nw 0 38 ∧ s.get [false, true, false, false] = G p.n ∧ s.get [true, true, false, false] = G i ∧ h = H) .normal (fun s h => s.get [] = .yld p.l ∧ s.get [false] = .ptr p.bc 0 2 ∧ s.get [true] = .ptr p.bt 0 1 ∧ s.get [false, false] = .ptr p.bl 0 1 ∧ s.get [true, false] = .ptr p.bb 0 1 ∧ s.get [true, true] = .ptr p.nw 0 38 ∧ s.get [false, true, false, false] = G p.n ∧ s.get [true, true, false, false] = G i ∧ h = H) := Tr.region fun s h hp => by
    obtain ⟨g0, g1, g2, g3, g4, g5, g6, g7, rfl⟩ := hp
    simp (disch := first | omega | exact getEq rfl | exact getO0 | exact Nat.le_of_ble_eq_true rfl) [c70_o3, came_some, goI, List.getElem?_cons_zero, List.getElem?_cons_succ, kn, keep, app_growP, app_noneP, plus_N, plus_at0, put_plus0, upd_N, upd_size, putAt, AV.cells, fillA, loadA, takeA, mk, Eff.isAll, Eff.isNone, Eff.commutes, Eff.spares, okPair, apart, eqAgg, fits, LK.fits, allEq, aveq, eqk, mmA, beqT, wrapI, idxI, tdivI, tmodI, decT, decF, ibT, ibF, inT, inF, evScope_c, if_pos, if_neg, g0, g1, g2, g3, g4, g5, g6, g7]
  have tr := st_round J K g hi w.f w.w w.N
  have k1 : Kp (· = p.nw) H (X70 p H i) := (Kp.plus H _).trans (Kp.upd _ _ _ w.N rfl)
  have x1 : (X70 p H i).get (H.size + 1) = .cells 0 2 [G (yC p.lot p.bad p.A p.R i), G (nC p.lot p.bad p.A p.R i)] := by
    unfold X70
    rw [upd_ne (H.plus _) _ _ _ (by rw [plus_N]; exact w.N) (by omega), plus_ge _ _ _ (by omega), Nat.add_sub_cancel_left]; rfl
  have x2 : (X70 p H i).get p.nw = nwC (opn p.A p.R (i + 1)) := upd_same _ _ _ w.N (by rw [plus_size]; omega)
  obtain ⟨own, hc, k2, hinv⟩ := f.step i _ hi (f.pass i _ _ w.inv k1)
  have ty := st_yield J hi (by omega) (X70 p H i) (H.size + 1) x1 hc
  have t26 := fun (X : Heap) => (show Tr tbl J c70_o26 (fun s h => s.get [] = .yld p.l ∧ s.get [false] = .ptr p.bc 0 2 ∧ s.get [true] = .ptr p.bt 0 1 ∧ s.get [false, false] = .ptr p.bl 0 1 ∧ s.get [true, false] = .ptr p.bb 0 1 ∧ s.get [true, true] = .ptr p.nw 0 38 ∧ s.get [false, true, false, false] = G p.n ∧ s.get [true, true, false, false] = G i ∧ h = X) .normal (fun s h => s.get [] = .yld p.l ∧ s.get [false] = .ptr p.bc 0 2 ∧ s.get [true] = .ptr p.bt 0 1 ∧ s.get [false, false] = .ptr p.bl 0 1 ∧ s.get [true, false] = .ptr p.bb 0 1 ∧ s.get [true, true] = .ptr p.nw 0 38 ∧ s.get [false, true, false, false] = G p.n ∧ s.get [true, true, false, false] = G ((i + 1 : Nat) : Int) ∧ h = X) from by
    have t : Tr tbl J (c70_o26) (fun s h => s.get [] = .yld p.l ∧ s.get [false] = .ptr p.bc 0 2 ∧ s.get [true] = .ptr p.bt 0 1 ∧ s.get [false, false] = .ptr p.bl 0 1 ∧ s.get [true, false] = .ptr p.bb 0 1 ∧ s.get [true, true] = .ptr p.nw 0 38 ∧ s.get [false, true, false, false] = G p.n ∧ s.get [true, true, false, false] = G i ∧ h = X) .normal (fun s h => s.get [] = .yld p.l ∧ s.get [false] = .ptr p.bc 0 2 ∧ s.get [true] = .ptr p.bt 0 1 ∧ s.get [false, false] = .ptr p.bl 0 1 ∧ s.get [true, false] = .ptr p.bb 0 1 ∧ s.get [true, true] = .ptr p.nw 0 38 ∧ s.get [false, true, false, false] = G p.n ∧ s.get [true, true, false, false] = G ((i + 1 : Nat) : Int) ∧ h = X) := Tr.region fun s h hp => by
      obtain ⟨g0, g1, g2, g3, g4, g5, g6, g7, rfl⟩ := hp
      simp (disch := first | omega | exact getEq rfl | exact getO0 | exact Nat.le_of_ble_eq_true rfl) [c70_o26, came_some, goI, List.getElem?_cons_zero, List.getElem?_cons_succ, kn, keep, app_growP, app_noneP, plus_N, plus_at0, put_plus0, upd_N, upd_size, putAt, AV.cells, fillA, loadA, takeA, mk, Eff.isAll, Eff.isNone, Eff.commutes, Eff.spares, okPair, apart, eqAgg, fits, LK.fits, allEq, aveq, eqk, mmA, beqT, wrapI, idxI, tdivI, tmodI, decT, decF, ibT, ibF, inT, inF, evScope_c, if_pos, if_neg, g0, g1, g2, g3, g4, g5, g6, g7]
    exact t)
  obtain ⟨h0, h1, h2, h3, h4, h5, h6, h7⟩ := hs
  have all := Tr.trim_assoc (Tr.trim_seq t3 (Tr.seq (Tr.block_out (id := 1) (Tr.app6 tr ty) (by simp)) (t26 _)))
  obtain ⟨s', h', r1, q0, q1, q2, q3, q4, q5, q6, q7, rfl⟩ := all s H ⟨h0, h1, h2, h3, h4, h5, h6, h7, rfl⟩
  exact ⟨s', _, r1, ⟨q0, q1, q2, q3, q4, q5, q6, q7⟩, (w.f.kp k1 g.av).kp k2 f.av, k2.at x2 (by simp) f.nw, by rw [k2.N, k1.N]; exact w.N, hinv⟩

theorem st_all (J : CallF) (K : Kn J) (g : GH p) {M : Nat → Prop} {Inv : Nat → Heap → Prop} (f : Feed J p M Inv) : Tr tbl J c70_l2 (P70 p Inv 0) (.exit 0) (fun s h => WI p Inv p.n h) := by
  have n2 := g.n2
  have l2 := g.l2
  have te : Tr tbl J (.trim L70o c70_b2) (P70 p Inv p.n) (.exit 0) (fun s h => WI p Inv p.n h) := fun s H hp => by
    obtain ⟨⟨h0, h1, h2, h3, h4, h5, h6, h7⟩, w⟩ := hp
    have t : Tr tbl J ((.trim L70o c70_b2)) (fun s h => s.get [] = .yld p.l ∧ s.get [false] = .ptr p.bc 0 2 ∧ s.get [true] = .ptr p.bt 0 1 ∧ s.get [false, false] = .ptr p.bl 0 1 ∧ s.get [true, false] = .ptr p.bb 0 1 ∧ s.get [true, true] = .ptr p.nw 0 38 ∧ s.get [false, true, false, false] = G p.n ∧ s.get [true, true, false, false] = G p.n ∧ h = H) (.exit 0) (fun s h => h = H) := Tr.region fun s h hp => by
      obtain ⟨g0, g1, g2, g3, g4, g5, g6, g7, rfl⟩ := hp
      simp (disch := first | omega | exact getEq rfl | exact getO0 | exact Nat.le_of_ble_eq_true rfl) [c70_b2, c70_o3, came_some, goI, List.getElem?_cons_zero, List.getElem?_cons_succ, kn, keep, app_growP, app_noneP, plus_N, plus_at0, put_plus0, upd_N, upd_size, putAt, AV.cells, fillA, loadA, takeA, mk, Eff.isAll, Eff.isNone, Eff.commutes, Eff.spares, okPair, apart, eqAgg, fits, LK.fits, allEq, aveq, eqk, mmA, beqT, wrapI, idxI, tdivI, tmodI, decT, decF, ibT, ibF, inT, inF, evScope_c, if_pos, if_neg, g0, g1, g2, g3, g4, g5, g6, g7]
    obtain ⟨s', h', r1, rfl⟩ := t s H ⟨h0, h1, h2, h3, h4, h5, h6, h7, rfl⟩
    exact ⟨s', h', r1, w⟩
  exact Tr.rounds (P := P70 p Inv) (M := p.n) (fun i hi => st_step J K g f hi) te (by simp) 0 (by omega)

/-- stops$1, from its beginning to its end. -/
theorem c70_ok (J : CallF) (K : Kn J) (hJ : ∀ a h, J 70 a h = none) (g : GH p) {M : Nat → Prop} {Inv : Nat → Heap → Prop} (f : Feed J p M Inv) (H : Heap) (hf : GF p H) (hw : p.nw = H.size) (hN : H.N ≤ p.nw) (hinv : Inv 0 H) :
    ∃ own, CallsTo tbl J 70 [.yld p.l, .ptr p.bc 0 2, .ptr p.bt 0 1, .ptr p.bl 0 1, .ptr p.bb 0 1] H (.tup [], own, true) ∧ WI p Inv p.n ⟨H.lo, H.N, own⟩ := by
  have n2 := g.n2
  have l2 := g.l2
  obtain ⟨nw, hnw⟩ : ∃ b, p.nw = b := ⟨_, rfl⟩
  have e0 : nwC (opn p.A p.R 0) = .cells 0 38 ((List.replicate 38 (G 0)).set 0 (G 1)) := by
    rw [zs_rep, zs_set _ _ _ _ (by omega)]
    refine congrArg (AObj.cells 0 38) (zs_ext _ _ _ fun j _ => ?_)
    show ((if j = 0 then 1 else 0 : Nat) : Int) = _
    split <;> rfl
  have fc := (hf.plus [nwC (opn p.A p.R 0)]).fc
  have u0 : ∀ x, Eff.app (.put H.size 38 0 [x]) (H.plus [.cells 0 38 (List.replicate 38 (G 0))]) = some (H.plus [.cells 0 38 ((List.replicate 38 (G 0)).set 0 x)]) := fun x => put_p1 _ _ _ _ _ _ _ (by simp)
  have t1 : Tr tbl J ((.seq c70_o0 c70_o1)) (fun s h => s = T.set (T.set (T.set (T.set (T.set .leaf [] (.yld p.l)) [false] (.ptr p.bc 0 2)) [true] (.ptr p.bt 0 1)) [false, false] (.ptr p.bl 0 1)) [true, false] (.ptr p.bb 0 1) ∧ h = H) .normal (fun s h => s.get [] = .yld p.l ∧ s.get [false] = .ptr p.bc 0 2 ∧ s.get [true] = .ptr p.bt 0 1 ∧ s.get [false, false] = .ptr p.bl 0 1 ∧ s.get [true, false] = .ptr p.bb 0 1 ∧ s.get [true, true] = .ptr H.size 0 38 ∧ h = H.plus [nwC (opn p.A p.R 0)]) := Tr.region fun s h hp => by
    obtain ⟨rfl, rfl⟩ := hp
    rw [e0]
    simp (disch := first | omega | exact getEq rfl | exact getO0 | exact Nat.le_of_ble_eq_true rfl) [c70_o0, c70_o1, came_some, goI, List.getElem?_cons_zero, List.getElem?_cons_succ, kn, keep, app_growP, app_noneP, plus_N, plus_at0, put_plus0, upd_N, upd_size, putAt, AV.cells, fillA, loadA, takeA, mk, Eff.isAll, Eff.isNone, Eff.commutes, Eff.spares, okPair, apart, eqAgg, fits, LK.fits, allEq, aveq, eqk, mmA, beqT, wrapI, idxI, tdivI, tmodI, decT, decF, ibT, ibF, inT, inF, evScope_c, if_pos, if_neg, u0, List.length_replicate]
  have t2 : Tr tbl J (c70_o2) (fun s h => s.get [] = .yld p.l ∧ s.get [false] = .ptr p.bc 0 2 ∧ s.get [true] = .ptr p.bt 0 1 ∧ s.get [false, false] = .ptr p.bl 0 1 ∧ s.get [true, false] = .ptr p.bb 0 1 ∧ s.get [true, true] = .ptr H.size 0 38 ∧ h = H.plus [nwC (opn p.A p.R 0)]) .normal (fun s h => s.get [] = .yld p.l ∧ s.get [false] = .ptr p.bc 0 2 ∧ s.get [true] = .ptr p.bt 0 1 ∧ s.get [false, false] = .ptr p.bl 0 1 ∧ s.get [true, false] = .ptr p.bb 0 1 ∧ s.get [true, true] = .ptr H.size 0 38 ∧ s.get [false, true, false, false] = G p.n ∧ s.get [true, true, false, false] = G ((0 : Nat) : Int) ∧ h = H.plus [nwC (opn p.A p.R 0)]) := Tr.region fun s h hp => by
    obtain ⟨g0, g1, g2, g3, g4, g5, rfl⟩ := hp
    simp (disch := first | omega | exact getEq rfl | exact getO0 | exact Nat.le_of_ble_eq_true rfl) [c70_o2, came_some, goI, List.getElem?_cons_zero, List.getElem?_cons_succ, kn, keep, app_growP, app_noneP, plus_N, plus_at0, put_plus0, upd_N, upd_size, putAt, AV.cells, fillA, loadA, takeA, mk, Eff.isAll, Eff.isNone, Eff.commutes, Eff.spares, okPair, apart, eqAgg, fits, LK.fits, allEq, aveq, eqk, mmA, beqT, wrapI, idxI, tdivI, tmodI, decT, decF, ibT, ibF, inT, inF, evScope_c, if_pos, if_neg, g0, g1, g2, g3, g4, g5, fc]
  have k1 : Kp (· = p.nw) H (H.plus [nwC (opn p.A p.R 0)]) := Kp.plus H _
  have t2' := Tr.post (Q' := P70 p Inv 0) (fun s h q => by
    obtain ⟨q0, q1, q2, q3, q4, q5, q6, q7, rfl⟩ := q
    rw [← hw] at q5
    exact ⟨⟨q0, q1, q2, q3, q4, q5, q6, q7⟩, hf.plus _, by rw [hw]; exact plus_at0 _ _ _ _ rfl, hN, f.pass 0 _ _ hinv k1⟩) t2
  obtain ⟨s', h', r1, w⟩ := Tr.app2 t1 (Tr.seq t2' (Tr.block (st_all J K g f))) _ _ ⟨rfl, rfl⟩
  have hlo : h'.lo = H.lo ∧ h'.N = H.N := r1.keeps
  have := CallsTo.shared (tbl := tbl) (I := J) (args := [.yld p.l, .ptr p.bc 0 2, .ptr p.bt 0 1, .ptr p.bl 0 1, .ptr p.bb 0 1]) (cf := c70) (f := 70) (vs := []) (by decide) rfl (hJ _ _) rfl rfl r1 (by simp) rfl
  refine ⟨h'.own, this, ?_⟩
  rw [← hlo.1, ← hlo.2]; exact w
end

end Go.Proofs.Ytlkgpcfhpeilhaa.Ev
