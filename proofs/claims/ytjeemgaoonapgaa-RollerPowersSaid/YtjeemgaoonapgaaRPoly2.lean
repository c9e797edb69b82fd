/-
  Polynomial, whole. No condition.
-/
import Derived.Test.YtjeemgaoonapgaaRPoly
set_option linter.unusedVariables false
set_option linter.unusedSimpArgs false
namespace Go.Proofs.Ytjeemgaoonapgaa.Ev
open Go Go.AEv

attribute [local simp] evFunc initS evOps_c evTrim_c evSkip_c evExit_c evRet_c evSeq_c evCond_c evBlock_c evDraw_c runOps_n runOps_c exec_n exec_g pure1_c act AOpd.ev T.get T.set T.put evBin evUn forceT_eq forceV_eq forceL_eq evRess evRes one keep runFP_n runFP_c app_none AV.flats AV.flat came_some List.getElem?_cons_zero List.getElem?_cons_succ beqT wrapI idxI tdivI tmodI decT decF ibT ibF inT inF evScope_c if_pos if_neg Cm_some thenW_n thenW_e thenW_r blkW_n blkW_e blkW_r goI kn putAt AV.cells fillA loadA takeA mk Eff.isAll Eff.isNone Eff.commutes Eff.spares okPair apart eqAgg fits LK.fits allEq aveq eqk mmA

section
variable {M : List (List Int)}
/-- The memory after k steps. -/
structure PS (h H : Heap) (M : List (List Int)) (k : Nat) : Prop where
  kp : Kp (fun _ => False) (frameOf h) H
  sz : h.size + 3 ≤ H.size
  gm : H.get h.size = .cells 0 65 (matC M)
  go : H.get (h.size + 1) = .cells 1 (M.length + 1) (gs (lf (pQ M k).2 (M.length + 1)))
  gx : H.get (h.size + 2) = .cells 0 64 (sq (pQ M k).1)
theorem pQ_set {k : Nat} (hk : k < M.length) : (gs (lf (pQ M k).2 (M.length + 1))).set (M.length - (k + 1)) (G (cf (k + 1) (tJ M (pQ M (k + 1)).1 M.length))) = gs (lf (pQ M (k + 1)).2 (M.length + 1)) := by
  rw [gl_set _ _ _ _ (by omega)]
  congr 1
theorem c33_step (J : CallF) (h : Heap) (hm : isMat M = true) {k : Nat} (hk : k < M.length) : Tr tbl J (.trim [[true, false], [true, true], [false, false, false], [true, false, false]] c33_b5) (fun s H => PS h H M k ∧ s.get [true, false] = .ptr h.size 0 65 ∧ s.get [true, true] = .slice (h.size + 1) 0 (M.length + 1) (M.length + 1) ∧ s.get [false, false, false] = .ptr (h.size + 2) 0 64 ∧ s.get [true, false, false] = G ((k + 1 : Nat) : Int)) .normal
    (fun s H => PS h H M (k + 1) ∧ s.get [true, false] = .ptr h.size 0 65 ∧ s.get [true, true] = .slice (h.size + 1) 0 (M.length + 1) (M.length + 1) ∧ s.get [false, false, false] = .ptr (h.size + 2) 0 64 ∧ s.get [true, false, false] = G ((k + 1 + 1 : Nat) : Int)) := by
  have h8 := isMat_n hm
  refine Tr.w fun s1 H1 hp R kR => W.trim ?_
  obtain ⟨ps, q⟩ := hp
  obtain ⟨kp, sz, gm, go, gx⟩ := ps
  have e0 : (matC M)[0]? = some (G M.length) := rfl
  have e0' := getI e0
  have lm := matC_len M
  have l2 := c33_l2_ok (bo := h.size + 1) J hm gm gx go hk
  rw [pP_0, pP_all, show nxX M (pQ M k).1 ((pQ M k).2 (M.length - k)) = (pQ M (k + 1)).1 from rfl] at l2
  have rp := sq_rep
  have lz := sq_len fun _ => 0
  have N1 : H1.N = h.size := kp.N
  have g1 : (H1.plus [.cells 0 64 (sq (pQ M (k + 1)).1)]).get H1.size = .cells 0 64 (sq (pQ M (k + 1)).1) := plus_at0 _ _ _ _ rfl
  have k1 : Kp (fun _ => False) (frameOf h) (H1.plus [.cells 0 64 (sq (pQ M (k + 1)).1)]) := kp.trans (Kp.plus _ _)
  have gm1 := plus_keep [.cells 0 64 (sq (pQ M (k + 1)).1)] gm (by simp)
  have gm0 := plus_keep [.cells 0 64 (sq fun _ => 0)] gm (by simp)
  have go1 := plus_keep [.cells 0 64 (sq (pQ M (k + 1)).1)] go (by simp)
  have gx1 := plus_keep [.cells 0 64 (sq (pQ M (k + 1)).1)] gx (by simp)
  have s1 : h.size + 3 ≤ (H1.plus [.cells 0 64 (sq (pQ M (k + 1)).1)]).size := by rw [plus_size]; omega
  have n1 : (H1.plus [.cells 0 64 (sq (pQ M (k + 1)).1)]).N = h.size := N1
  clear gx go
  generalize hHa : H1.plus [.cells 0 64 (sq (pQ M (k + 1)).1)] = Ha at *
  have fs : (frameOf h).size = h.size := by simp [frameOf, Heap.size]
  have p1 := put_gen Ha (h.size + 2) 64 0 0 (sq (pQ M k).1) (sq (pQ M (k + 1)).1) (by omega) gx1 (by rw [sq_len, sq_len]; omega)
  rw [show putAt (sq (pQ M k).1) 0 (sq (pQ M (k + 1)).1) = sq (pQ M (k + 1)).1 from putAt_all _ _ (by rw [sq_len, sq_len])] at p1
  have k2 : Kp (fun _ => False) (frameOf h) (Ha.upd (h.size + 2) (.cells 0 64 (sq (pQ M (k + 1)).1))) := k1.updn _ _ (by omega) (by omega)
  have gm2 : (Ha.upd (h.size + 2) (.cells 0 64 (sq (pQ M (k + 1)).1))).get h.size = .cells 0 65 (matC M) := by rw [upd_ne _ _ _ _ (by omega) (by omega)]; exact gm1
  have go2 : (Ha.upd (h.size + 2) (.cells 0 64 (sq (pQ M (k + 1)).1))).get (h.size + 1) = .cells 1 (M.length + 1) (gs (lf (pQ M k).2 (M.length + 1))) := by rw [upd_ne _ _ _ _ (by omega) (by omega)]; exact go1
  have gx2 : (Ha.upd (h.size + 2) (.cells 0 64 (sq (pQ M (k + 1)).1))).get (h.size + 2) = .cells 0 64 (sq (pQ M (k + 1)).1) := upd_same _ _ _ (by omega) (by omega)
  have s2 : h.size + 3 ≤ (Ha.upd (h.size + 2) (.cells 0 64 (sq (pQ M (k + 1)).1))).size := by rw [upd_size]; exact s1
  have n2 : (Ha.upd (h.size + 2) (.cells 0 64 (sq (pQ M (k + 1)).1))).N = h.size := n1
  generalize hHb : Ha.upd (h.size + 2) (.cells 0 64 (sq (pQ M (k + 1)).1)) = Hb at *
  have l4 := c33_l4_ok (bo := h.size + 1) (k := k + 1) J hm gm2 gx2
  rw [show tJ M (pQ M (k + 1)).1 0 = 0 from rfl, w6_0] at l4
  have es := pQ_set hk
  have p2 := put_gen Hb (h.size + 1) (M.length + 1) (M.length - (k + 1)) 1 (gs (lf (pQ M k).2 (M.length + 1))) [G (cf (k + 1) (tJ M (pQ M (k + 1)).1 M.length))] (by omega) go2 (by rw [gl_len]; show M.length - (k + 1) + 1 ≤ M.length + 1; omega)
  rw [show putAt (gs (lf (pQ M k).2 (M.length + 1))) (M.length - (k + 1)) [G (cf (k + 1) (tJ M (pQ M (k + 1)).1 M.length))] = gs (lf (pQ M (k + 1)).2 (M.length + 1)) from es] at p2
  have k3 : Kp (fun _ => False) (frameOf h) (Hb.upd (h.size + 1) (.cells 1 (M.length + 1) (gs (lf (pQ M (k + 1)).2 (M.length + 1))))) := k2.updn _ _ (by omega) (by omega)
  have ps3 : PS h (Hb.upd (h.size + 1) (.cells 1 (M.length + 1) (gs (lf (pQ M (k + 1)).2 (M.length + 1))))) M (k + 1) := ⟨k3, by rw [upd_size]; exact s2, by rw [upd_ne _ _ _ _ (by omega) (by omega)]; exact gm2, upd_same _ _ _ (by omega) (by omega), by rw [upd_ne _ _ _ _ (by omega) (by omega)]; exact gx2⟩
  generalize hHc : Hb.upd (h.size + 1) (.cells 1 (M.length + 1) (gs (lf (pQ M (k + 1)).2 (M.length + 1)))) = Hc at *
  have hc : IntKind.i64.wrap ((IntKind.i64.wrap (-w6 (tJ M (pQ M (k + 1)).1 M.length))).tdiv ((k : Int) + 1)) = cf (k + 1) (tJ M (pQ M (k + 1)).1 M.length) := by unfold cf; rw [Int.zero_sub]; rfl
  have hix : ((M.length : Int) - ((k : Int) + 1)).toNat = M.length - (k + 1) := by omega
  have et : (sq (pQ M (k + 1)).1).take 64 = sq (pQ M (k + 1)).1 := List.take_of_length_le (by rw [sq_len]; exact Nat.le_refl _)
  have lx := sq_len (pQ M (k + 1)).1
  generalize cf (k + 1) (tJ M (pQ M (k + 1)).1 M.length) = cc at *
  generalize w6 (tJ M (pQ M (k + 1)).1 M.length) = Tv at *
  clear kp k1 k2 k3 gx1 gx2 go1 go2 es
  generalize sq (pQ M (k + 1)).1 = X1 at *
  generalize sq (fun _ => 0) = z0 at *
  generalize gs (lf (pQ M k).2 (M.length + 1)) = co at *
  generalize matC M = cm at *
  generalize M.length = n at *
  have km : ¬ (k : Int) + 1 = 0 := by omega
  refine W.assoc ?_
  refine W.seq (W.chunk ?_)
  simp (disch := first | omega | exact getEq rfl | exact getO0 | exact Nat.le_of_ble_eq_true rfl) [-List.reduceReplicate, c33_o8, app_growP, app_noneP, plus_N, plus_at0, put_plus0, put_plus1, upd_N, upd_size, q, gm, e0, e0', lm]
  refine W.seq (W.chunk ?_)
  simp (disch := first | omega | exact getEq rfl | exact getO0 | exact Nat.le_of_ble_eq_true rfl) [-List.reduceReplicate, app_growP, app_noneP, plus_N, plus_at0, put_plus0, put_plus1, upd_N, upd_size, q]
  refine W.seq (W.block ?_)
  refine W.seq (W.chunk ?_)
  simp (disch := first | omega | exact getEq rfl | exact getO0 | exact Nat.le_of_ble_eq_true rfl) [-List.reduceReplicate, c33_o9, app_growP, app_noneP, plus_N, plus_at0, put_plus0, put_plus1, upd_N, upd_size, q, rp, lz]
  refine W.assoc ?_
  refine W.seq (W.chunk ?_)
  simp (disch := first | omega | exact getEq rfl | exact getO0 | exact Nat.le_of_ble_eq_true rfl) [-List.reduceReplicate, c33_o10, app_growP, app_noneP, plus_N, plus_at0, put_plus0, put_plus1, upd_N, upd_size, q, gm0, gm, e0, e0', lm]
  refine W.seq (W.block ?_)
  refine W.use (l2) (by simp (disch := first | omega | exact getEq rfl | exact getO0 | exact Nat.le_of_ble_eq_true rfl) [-List.reduceReplicate, app_growP, app_noneP, plus_N, plus_at0, put_plus0, put_plus1, upd_N, upd_size, q]) fun s1 H1 hp => ?_
  obtain ⟨rfl, q⟩ := hp
  try simp only [thenW_n, thenW_e, thenW_r, blkW_n, blkW_e, blkW_r, if_true]
  refine W.seq (W.chunk ?_)
  simp (disch := first | omega | exact getEq rfl | exact getO0 | exact Nat.le_of_ble_eq_true rfl) [-List.reduceReplicate, c33_o24, app_growP, app_noneP, plus_N, plus_at0, put_plus0, put_plus1, upd_N, upd_size, q, hHa, g1, et, lx, p1]
  refine W.seq (W.chunk ?_)
  simp (disch := first | omega | exact getEq rfl | exact getO0 | exact Nat.le_of_ble_eq_true rfl) [-List.reduceReplicate, c33_o25, app_growP, app_noneP, plus_N, plus_at0, put_plus0, put_plus1, upd_N, upd_size, q]
  refine W.assoc ?_
  refine W.seq (W.chunk ?_)
  simp (disch := first | omega | exact getEq rfl | exact getO0 | exact Nat.le_of_ble_eq_true rfl) [-List.reduceReplicate, c33_o26, app_growP, app_noneP, plus_N, plus_at0, put_plus0, put_plus1, upd_N, upd_size, q, gm2, e0, e0', lm]
  refine W.seq (W.block ?_)
  refine W.use (l4) (by simp (disch := first | omega | exact getEq rfl | exact getO0 | exact Nat.le_of_ble_eq_true rfl) [-List.reduceReplicate, app_growP, app_noneP, plus_N, plus_at0, put_plus0, put_plus1, upd_N, upd_size, q]) fun s1 H1 hp => ?_
  obtain ⟨rfl, q⟩ := hp
  try simp only [thenW_n, thenW_e, thenW_r, blkW_n, blkW_e, blkW_r, if_true]
  refine W.chunk ?_
  simp (disch := first | omega | exact getEq rfl | exact getO0 | exact Nat.le_of_ble_eq_true rfl) [-List.reduceReplicate, c33_o35, app_growP, app_noneP, plus_N, plus_at0, put_plus0, put_plus1, upd_N, upd_size, q, gm2, e0, e0', lm, hix, hc, km, p2, -evDraw_c, evDraw_0]
  refine W.chunk ?_
  simp (disch := first | omega | exact getEq rfl | exact getO0 | exact Nat.le_of_ble_eq_true rfl) [-List.reduceReplicate, c33_o36, app_growP, app_noneP, plus_N, plus_at0, put_plus0, put_plus1, upd_N, upd_size, q]
  exact kR _ _ ⟨ps3, by simp [T.get, q]⟩
theorem c33_l5_ok (J : CallF) (h : Heap) (hm : isMat M = true) : Tr tbl J c33_l5 (fun s H => PS h H M 0 ∧ s.get [true, false] = .ptr h.size 0 65 ∧ s.get [true, true] = .slice (h.size + 1) 0 (M.length + 1) (M.length + 1) ∧ s.get [false, false, false] = .ptr (h.size + 2) 0 64 ∧ s.get [true, false, false] = G ((0 + 1 : Nat) : Int)) (.exit 0)
    (fun s H => PS h H M M.length ∧ s.get [true, true] = .slice (h.size + 1) 0 (M.length + 1) (M.length + 1)) := by
  have h8 := isMat_n hm
  refine Tr.rounds (P := fun k s H => PS h H M k ∧ s.get [true, false] = .ptr h.size 0 65 ∧ s.get [true, true] = .slice (h.size + 1) 0 (M.length + 1) (M.length + 1) ∧ s.get [false, false, false] = .ptr (h.size + 2) 0 64 ∧ s.get [true, false, false] = G ((k + 1 : Nat) : Int)) (M := M.length) (fun k hk => c33_step J h hm hk) ?_ (by simp) 0 (by omega)
  refine Tr.w fun s1 H1 hp R kR => W.trim ?_
  obtain ⟨ps, q⟩ := hp
  have gm := ps.gm
  have e0 : (matC M)[0]? = some (G M.length) := rfl
  have e0' := getI e0
  have lm := matC_len M
  refine W.assoc ?_
  refine W.seq (W.chunk ?_)
  simp (disch := first | omega | exact getEq rfl | exact getO0 | exact Nat.le_of_ble_eq_true rfl) [c33_o8, app_growP, app_noneP, plus_N, plus_at0, put_plus0, put_plus1, upd_N, upd_size, q, gm, e0, e0', lm]
  refine W.seq (W.chunk ?_)
  simp (disch := first | omega | exact getEq rfl | exact getO0 | exact Nat.le_of_ble_eq_true rfl) [app_growP, app_noneP, plus_N, plus_at0, put_plus0, put_plus1, upd_N, upd_size, q]
  exact kR _ _ ⟨ps, by simp [T.get, q]⟩
theorem c33_bad (J : CallF) (k54 : K54 J) (hJ : ∀ a h, J 33 a h = none) (h : Heap) {y : AV} (hy : MR h y M) (hm : isMat M = false) : CallsTo tbl J 33 [y] h (.tup [.nils, G 2], [], false) := by
  refine Tr.fnv (cf := c33) (e := .ret) (s := T.set .leaf [] y) (by decide) rfl (hJ _ _) rfl rfl rfl (by simp) ?_
  obtain ⟨cs, k54, hl, hc⟩ := k54 ⟨h.get, h.size, []⟩ y M (hy.lo [])
  have rp : (List.replicate 65 (AV.int .i64 0)).length = 65 := List.length_replicate
  have ep : putAt (List.replicate 65 (AV.int .i64 0)) 0 cs = cs := putAt_all _ _ (by omega)
  refine Tr.w fun s1 H1 hp R kR => ?_
  obtain ⟨rfl, rfl⟩ := hp
  have q : True := trivial
  generalize hZ : List.replicate 65 (AV.int .i64 0) = Z at *
  rw [hm] at k54
  refine W.seq (W.chunk ?_)
  simp (disch := first | omega | exact getEq rfl | exact getO0 | exact Nat.le_of_ble_eq_true rfl) [-List.reduceReplicate, c33_o0, size_mk, get_mk_lt, get_mk_ge, frameOf, Eff.app, Heap.setOwn, q]
  refine W.seq (W.chunk ?_)
  simp (disch := first | omega | exact getEq rfl | exact getO0 | exact Nat.le_of_ble_eq_true rfl) [-List.reduceReplicate, c33_o1, size_mk, get_mk_lt, get_mk_ge, frameOf, Eff.app, Heap.setOwn, q, k54, hZ, ep, rp, hl, frameOf]
  refine W.assoc ?_
  refine W.seq (W.chunk ?_)
  simp (disch := first | omega | exact getEq rfl | exact getO0 | exact Nat.le_of_ble_eq_true rfl) [-List.reduceReplicate, c33_o2, size_mk, get_mk_lt, get_mk_ge, frameOf, Eff.app, Heap.setOwn, q]
  refine W.seq (W.chunk ?_)
  simp (disch := first | omega | exact getEq rfl | exact getO0 | exact Nat.le_of_ble_eq_true rfl) [-List.reduceReplicate, c33_o3, size_mk, get_mk_lt, get_mk_ge, frameOf, Eff.app, Heap.setOwn, q]
  exact kR _ _ ⟨[.nils, G 2], by simp [T.get, c33, evRess, evRes], rfl⟩
theorem c33_ok (J : CallF) (k54 : K54 J) (hJ : ∀ a h, J 33 a h = none) (h : Heap) {y : AV} (hy : MR h y M) (hm : isMat M = true) : ∃ v own, CallsTo tbl J 33 [y] h (v, own, false) ∧ ∃ w, v = .tup [w, G 0] ∧ NG h (h.plus own) w (pyL M) := by
  refine Tr.fny (cf := c33) (e := .ret) (s := T.set .leaf [] y) (by decide) rfl (hJ _ _) rfl rfl (by simp) ?_
  obtain ⟨cs, k54, hl, hc⟩ := k54 ⟨h.get, h.size, []⟩ y M (hy.lo [])
  have rp : (List.replicate 65 (AV.int .i64 0)).length = 65 := List.length_replicate
  obtain rfl := hc hm
  have ep : putAt (List.replicate 65 (AV.int .i64 0)) 0 (matC M) = matC M := putAt_all _ _ (by omega)
  have h8 := isMat_n hm
  have e0 : (matC M)[0]? = some (G M.length) := rfl
  have e0' := getI e0
  have mk1 := fun H => mkSl_ok H 8 (G 0) (M.length + 1) ((M.length : Int) + 1) (by omega) (by omega)
  have rg := gl_rep (M.length + 1)
  have lg := gl_len (fun _ => 0) (M.length + 1)
  have es : (gs (lf (fun _ => 0) (M.length + 1))).set M.length (G 1) = gs (lf (pQ M 0).2 (M.length + 1)) := by
    rw [gl_set _ _ _ _ (by omega)]
    congr 1
  have rs := sq_rep
  have lz := sq_len fun _ => 0
  have lo := c33_l5_ok (M := M) J h hm
  have ps0 : PS h ⟨h.get, h.size, [.cells 0 65 (matC M), .cells 1 (M.length + 1) (gs (lf (pQ M 0).2 (M.length + 1))), .cells 0 64 (sq fun _ => 0)]⟩ M 0 :=
    ⟨Kp.plus (frameOf h) [.cells 0 65 (matC M), .cells 1 (M.length + 1) (gs (lf (pQ M 0).2 (M.length + 1))), .cells 0 64 (sq fun _ => 0)], by simp [Heap.size], by rw [get_mk_ge _ _ _ _ (by omega)]; simp, by rw [get_mk_ge _ _ _ _ (by omega)]; simp, by rw [get_mk_ge _ _ _ _ (by omega)]; simp [pQ]⟩
  refine Tr.w fun s1 H1 hp R kR => ?_
  obtain ⟨rfl, rfl⟩ := hp
  have q : True := trivial
  generalize hZ : List.replicate 65 (AV.int .i64 0) = Z at *
  rw [hm] at k54
  refine W.seq (W.chunk ?_)
  simp (disch := first | omega | exact getEq rfl | exact getO0 | exact Nat.le_of_ble_eq_true rfl) [-List.reduceReplicate, c33_o0, size_mk, get_mk_lt, get_mk_ge, frameOf, Eff.app, Heap.setOwn, q]
  refine W.seq (W.chunk ?_)
  simp (disch := first | omega | exact getEq rfl | exact getO0 | exact Nat.le_of_ble_eq_true rfl) [-List.reduceReplicate, c33_o1, size_mk, get_mk_lt, get_mk_ge, frameOf, Eff.app, Heap.setOwn, q, k54, hZ, ep, rp, hl, frameOf]
  refine W.assoc ?_
  refine W.seq (W.chunk ?_)
  simp (disch := first | omega | exact getEq rfl | exact getO0 | exact Nat.le_of_ble_eq_true rfl) [-List.reduceReplicate, c33_o2, size_mk, get_mk_lt, get_mk_ge, frameOf, Eff.app, Heap.setOwn, q]
  refine W.seq (W.chunk ?_)
  simp (disch := first | omega | exact getEq rfl | exact getO0 | exact Nat.le_of_ble_eq_true rfl) [-List.reduceReplicate, c33_o3, size_mk, get_mk_lt, get_mk_ge, frameOf, Eff.app, Heap.setOwn, q]
  refine W.seq (W.chunk ?_)
  simp (disch := first | omega | exact getEq rfl | exact getO0 | exact Nat.le_of_ble_eq_true rfl) [-List.reduceReplicate, -act, c33_o4, size_mk, get_mk_lt, get_mk_ge, frameOf, Eff.app, Heap.setOwn, q, act_move, act_mkSl, act_fa, act_load, act_bin, mk1, rg, e0, e0', hl]
  refine W.seq (W.chunk ?_)
  simp (disch := first | omega | exact getEq rfl | exact getO0 | exact Nat.le_of_ble_eq_true rfl) [-List.reduceReplicate, c33_o5, size_mk, get_mk_lt, get_mk_ge, frameOf, Eff.app, Heap.setOwn, q, e0, e0', hl, lg, es]
  refine W.seq (W.chunk ?_)
  simp (disch := first | omega | exact getEq rfl | exact getO0 | exact Nat.le_of_ble_eq_true rfl) [-List.reduceReplicate, c33_o6, size_mk, get_mk_lt, get_mk_ge, frameOf, Eff.app, Heap.setOwn, q, rs]
  refine W.assoc ?_
  refine W.seq (W.chunk ?_)
  simp (disch := first | omega | exact getEq rfl | exact getO0 | exact Nat.le_of_ble_eq_true rfl) [-List.reduceReplicate, c33_o7, size_mk, get_mk_lt, get_mk_ge, frameOf, Eff.app, Heap.setOwn, q]
  refine W.seq (W.block ?_)
  refine W.use (lo) (by simp (disch := first | omega | exact getEq rfl | exact getO0 | exact Nat.le_of_ble_eq_true rfl) [-List.reduceReplicate, size_mk, get_mk_lt, get_mk_ge, frameOf, Eff.app, Heap.setOwn, q, ps0, lz]) fun s1 H1 hp => ?_
  obtain ⟨ps, q⟩ := hp
  try simp only [thenW_n, thenW_e, thenW_r, blkW_n, blkW_e, blkW_r, if_true]
  refine W.seq (W.chunk ?_)
  simp (disch := first | omega | exact getEq rfl | exact getO0 | exact Nat.le_of_ble_eq_true rfl) [-List.reduceReplicate, c33_o37, size_mk, get_mk_lt, get_mk_ge, frameOf, Eff.app, Heap.setOwn, q]
  refine W.ret ?_
  try simp only [thenW_n, thenW_e, thenW_r, blkW_n, blkW_e, blkW_r, if_true]
  have ng : NG (frameOf h) H1 (.slice (h.size + 1) 0 (M.length + 1) (M.length + 1)) (pyL M) := ⟨ps.kp, fun q hq => by cases hq; simp [frameOf, Heap.size], .inr ⟨h.size + 1, by rw [show (gs (pyL M)).length = M.length + 1 from gl_len _ _], by rw [show (gs (pyL M)).length = M.length + 1 from gl_len _ _]; exact ps.go, by rw [ps.kp.N]; simp [frameOf]⟩⟩
  exact kR _ _ ⟨[.slice (h.size + 1) 0 (M.length + 1) (M.length + 1), G 0], by simp [T.get, c33, evRess, evRes, q], _, rfl, ng.fr1⟩
end

/-! ### What is known -/
def Post33 (a : AM) (h : Heap) (v : AV) (own : List AObj) : Prop := (isMat a.M = false → v = .tup [.nils, G 2] ∧ own = []) ∧ (isMat a.M = true → ∃ w, v = .tup [w, G 0] ∧ NG h (h.plus own) w (pyL a.M))
noncomputable def T18 : CallF := addK tbl T17 33 PreM Post33
theorem t18 : Sound Go.Proofs.Try.prog T18 := Sound.addK follows ok t17 (by decide) _ _
abbrev K33 (J : CallF) : Prop := ∀ (h : Heap) (a : AM), MR h a.y a.M → ∃ v own, J 33 [a.y] h = some (v, own, false) ∧ Post33 a h v own
theorem k54_17 : K54 T17 := fun h y M hy => by
  simp (disch := decide) only [T17, T16, T15, T14, T13, T12, T11, T10, T9, T8, T7, T6, T5, T4, T3, T2, T1, R21, R20, R19, R18, R17, R16, R15, R14, R13, R12, R11, R10, R9, R8, R7, R6, R5, R4, R3, R2, R1, addI_ne, addX_ne, addV_ne, addK_ne]
  exact k54 h y M hy
theorem k33 : K33 T18 := fun h a ha => addK_some (Pre := PreM) (Post := Post33) (fun a args h hp => by
  obtain ⟨hy, rfl⟩ := hp
  have hn : ∀ a h, T17 33 a h = none := (fun _ _ => by simp (disch := decide) only [T17, T16, T15, T14, T13, T12, T11, T10, T9, T8, T7, T6, T5, T4, T3, T2, T1, R21, R20, R19, R18, R17, R16, R15, R14, R13, R12, R11, R10, R9, R8, R7, R6, R5, R4, R3, R2, R1, addI_ne, addX_ne, addV_ne, addK_ne]; rfl)
  cases c : isMat a.M
  · exact ⟨_, _, c33_bad T17 k54_17 hn h hy c, fun _ => ⟨rfl, rfl⟩, fun q => by rw [c] at q; cases q⟩
  · obtain ⟨v, own, e, p⟩ := c33_ok T17 k54_17 hn h hy c
    exact ⟨v, own, e, fun q => (by rw [c] at q; cases q), fun _ => p⟩) a _ h ⟨ha, rfl⟩

end Go.Proofs.Ytjeemgaoonapgaa.Ev
