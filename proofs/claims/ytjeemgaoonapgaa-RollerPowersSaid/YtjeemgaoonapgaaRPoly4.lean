/-
  The reference's Polynomial, whole. No condition.
-/
import Derived.Test.YtjeemgaoonapgaaRPoly3
set_option linter.unusedVariables false
set_option linter.unusedSimpArgs false
namespace Go.Proofs.Ytjeemgaoonapgaa.Ev
open Go Go.AEv

attribute [local simp] evFunc initS evOps_c evTrim_c evSkip_c evExit_c evRet_c evSeq_c evCond_c evBlock_c evDraw_c runOps_n runOps_c exec_n exec_g pure1_c act AOpd.ev T.get T.set T.put evBin evUn forceT_eq forceV_eq forceL_eq evRess evRes one keep runFP_n runFP_c app_none AV.flats AV.flat came_some List.getElem?_cons_zero List.getElem?_cons_succ beqT wrapI idxI tdivI tmodI decT decF ibT ibF inT inF evScope_c if_pos if_neg Cm_some thenW_n thenW_e thenW_r blkW_n blkW_e blkW_r goI kn putAt AV.cells fillA loadA takeA mk Eff.isAll Eff.isNone Eff.commutes Eff.spares okPair apart eqAgg fits LK.fits allEq aveq eqk mmA

/-- A square table, newer than p. -/
structure TQ (H : Heap) (n : Nat) (X : Nat → Int) (q : Nat) (rs : List AV) (p : Nat) : Prop where
  g : H.get q = .cells 1 n rs
  q0 : p < q
  r : ∀ i, i < n → ∃ b, p < b ∧ rs[i]? = some (.slice b 0 n n) ∧ H.get b = .cells 1 n (gs (rwL X n i))
theorem TB.tq {H0 H : Heap} {x : AV} {n : Nat} {X : Nat → Int} (tb : TB H0 H x ((List.range n).map fun i => gs (rwL X n i))) (hn : 0 < n) {p : Nat} (hp : p < H0.size) : ∃ q rs, x = .slice q 0 n n ∧ TQ H n X q rs p := by
  have hl : ((List.range n).map fun i => gs (rwL X n i)).length = n := by simp
  obtain ⟨rs, lv, hl', hr⟩ := tb.r
  rw [hl] at hl'
  obtain ⟨q, e1, e2⟩ := lv.sl (by intro e; rw [e] at hl'; simp at hl'; omega)
  rw [hl'] at e1 e2
  refine ⟨q, rs, e1, e2, ?_, fun i hi => ?_⟩
  · have := tb.x0 q (by rw [e1]; rfl); omega
  · obtain ⟨cs, b, h1, h2, h3, h4, h5⟩ := hr i rs[i] (List.getElem?_eq_getElem (by omega))
    have hc : cs = gs (rwL X n i) := by
      simp [hi] at h1
      exact h1.symm
    have lr : (gs (rwL X n i)).length = n := by simp [rwL, lf_len]
    rw [hc, lr] at h2 h3
    exact ⟨b, by omega, by rw [List.getElem?_eq_getElem (by omega), h2], h3⟩
theorem TQ.upd {H : Heap} {n : Nat} {X : Nat → Int} {q : Nat} {rs : List AV} {p : Nat} (t : TQ H n X q rs p) (Y : AObj) (hN : H.N ≤ p) : TQ (H.upd p Y) n X q rs p :=
  ⟨by rw [upd_ne _ _ _ _ hN (by have := t.q0; omega)]; exact t.g, t.q0, fun i hi => by
    obtain ⟨b, e0, e1, e2⟩ := t.r i hi
    exact ⟨b, e0, e1, by rw [upd_ne _ _ _ _ hN (by omega)]; exact e2⟩⟩
section
variable {M : List (List Int)}
theorem TQ.e46 {H : Heap} {X : Nat → Int} {q p b v : Nat} {rs cs : List AV} (t : TQ H M.length X q rs p) (mx : MX H M b v cs) : E46 M X H b v q cs rs :=
  ⟨mx, t.g, fun i hi => by obtain ⟨b, _, e1, e2⟩ := t.r i hi; exact ⟨b, e1, e2⟩⟩
structure QS (h H : Heap) (M : List (List Int)) (k q : Nat) (rs : List AV) : Prop where
  kp : Kp (fun _ => False) (frameOf h) H
  sz : h.size < H.size
  go : H.get h.size = .cells 1 (M.length + 1) (gs (lf (pQ M k).2 (M.length + 1)))
  t : TQ H M.length (pQ M k).1 q rs h.size
theorem c45_step (J : CallF) (h : Heap) (hm : isMat M = true) {b v : Nat} {cs : List AV} (mx : MX (frameOf h) M b v cs) {k : Nat} (hk : k < M.length) : Tr tbl J (.trim [[], [false, false], [true, false], [false, true], [false, false, false]] c45_b6) (fun s H => ∃ q rs, QS h H M k q rs ∧ s.get [] = .slice b 0 M.length v ∧ s.get [false, false] = G M.length ∧ s.get [true, false] = .slice h.size 0 (M.length + 1) (M.length + 1) ∧ s.get [false, true] = .slice q 0 M.length M.length ∧ s.get [false, false, false] = G ((k + 1 : Nat) : Int)) .normal
    (fun s H => ∃ q rs, QS h H M (k + 1) q rs ∧ s.get [] = .slice b 0 M.length v ∧ s.get [false, false] = G M.length ∧ s.get [true, false] = .slice h.size 0 (M.length + 1) (M.length + 1) ∧ s.get [false, true] = .slice q 0 M.length M.length ∧ s.get [false, false, false] = G ((k + 1 + 1 : Nat) : Int)) := by
  have h8 := isMat_n hm
  have fs : (frameOf h).size = h.size := by simp [frameOf, Heap.size]
  refine Tr.w fun s1 H1 hp R kR => W.trim ?_
  obtain ⟨q0, rs, qs, q⟩ := hp
  obtain ⟨kp, sz, go, t⟩ := qs
  have l3 := c45_i J hm (t.e46 (mx.kp kp)) go hk
  have hix : ((M.length : Int) - ((k : Int) + 1)).toNat = M.length - (k + 1) := by omega
  have es := pQ_set hk
  have lc := gl_len (pQ M k).2 (M.length + 1)
  have hc : IntKind.i64.wrap ((IntKind.i64.wrap (-w6 (tJ M (pQ M (k + 1)).1 M.length))).tdiv ((k : Int) + 1)) = cf (k + 1) (tJ M (pQ M (k + 1)).1 M.length) := by unfold cf; rw [Int.zero_sub]; rfl
  have km : ¬ (k : Int) + 1 = 0 := by omega
  have t00 : tJ M (pQ M (k + 1)).1 0 = 0 := rfl
  refine W.assoc ?_
  refine W.seq (W.chunk ?_)
  simp (disch := first | omega | exact getEq rfl | exact getO0 | exact Nat.le_of_ble_eq_true rfl) [c45_o10, app_growP, app_noneP, plus_N, plus_at0, put_plus0, put_plus1, upd_N, upd_size, q]
  refine W.seq (W.chunk ?_)
  simp (disch := first | omega | exact getEq rfl | exact getO0 | exact Nat.le_of_ble_eq_true rfl) [app_growP, app_noneP, plus_N, plus_at0, put_plus0, put_plus1, upd_N, upd_size, q]
  refine W.seq (W.block ?_)
  refine W.seq (W.chunk ?_)
  simp (disch := first | omega | exact getEq rfl | exact getO0 | exact Nat.le_of_ble_eq_true rfl) [c45_o11, app_growP, app_noneP, plus_N, plus_at0, put_plus0, put_plus1, upd_N, upd_size, q]
  refine W.assoc ?_
  refine W.seq (W.chunk ?_)
  simp (disch := first | omega | exact getEq rfl | exact getO0 | exact Nat.le_of_ble_eq_true rfl) [c45_o12, app_growP, app_noneP, plus_N, plus_at0, put_plus0, put_plus1, upd_N, upd_size, q]
  refine W.seq (W.block ?_)
  refine W.use (l3) (by simp (disch := first | omega | exact getEq rfl | exact getO0 | exact Nat.le_of_ble_eq_true rfl) [app_growP, app_noneP, plus_N, plus_at0, put_plus0, put_plus1, upd_N, upd_size, q]) fun s1 H1 hp => ?_
  obtain ⟨xn, tb, q⟩ := hp
  try simp only [thenW_n, thenW_e, thenW_r, blkW_n, blkW_e, blkW_r, if_true]
  have kp2 := kp.trans tb.k
  have go2 := tb.k.at go (by simp) id
  obtain ⟨q1, rs1, rfl, t1⟩ := TB.tq (X := (pQ M (k + 1)).1) tb (by omega) sz
  have l5 := c45_l5_ok (bo := h.size) (k := k + 1) J hm (t1.e46 (mx.kp kp2))
  rw [t00, w6_0] at l5
  have N1 : H1.N = h.size := kp2.N
  have s1 : h.size < H1.size := Nat.lt_of_lt_of_le sz tb.k.size
  have p2 := put_gen H1 h.size (M.length + 1) (M.length - (k + 1)) 1 (gs (lf (pQ M k).2 (M.length + 1))) [G (cf (k + 1) (tJ M (pQ M (k + 1)).1 M.length))] (by omega) go2 (by rw [gl_len]; show M.length - (k + 1) + 1 ≤ M.length + 1; omega)
  rw [show putAt (gs (lf (pQ M k).2 (M.length + 1))) (M.length - (k + 1)) [G (cf (k + 1) (tJ M (pQ M (k + 1)).1 M.length))] = gs (lf (pQ M (k + 1)).2 (M.length + 1)) from es] at p2
  have qs3 : QS h (H1.upd h.size (.cells 1 (M.length + 1) (gs (lf (pQ M (k + 1)).2 (M.length + 1))))) M (k + 1) q1 rs1 := ⟨kp2.updn _ _ (by omega) (by omega), by rw [upd_size]; exact s1, upd_same _ _ _ (by omega) s1, t1.upd _ (by omega)⟩
  clear tb t1 es mx kp kp2 go t go2
  generalize H1.upd h.size (.cells 1 (M.length + 1) (gs (lf (pQ M (k + 1)).2 (M.length + 1)))) = H3 at *
  generalize cf (k + 1) (tJ M (pQ M (k + 1)).1 M.length) = cc at *
  generalize w6 (tJ M (pQ M (k + 1)).1 M.length) = Tv at *
  generalize gs (lf (pQ M k).2 (M.length + 1)) = co at *
  generalize hn : M.length = n at *
  refine W.seq (W.chunk ?_)
  simp (disch := first | omega | exact getEq rfl | exact getO0 | exact Nat.le_of_ble_eq_true rfl) [c45_o25, app_growP, app_noneP, plus_N, plus_at0, put_plus0, put_plus1, upd_N, upd_size, q]
  refine W.seq (W.chunk ?_)
  simp (disch := first | omega | exact getEq rfl | exact getO0 | exact Nat.le_of_ble_eq_true rfl) [c45_o26, app_growP, app_noneP, plus_N, plus_at0, put_plus0, put_plus1, upd_N, upd_size, q]
  refine W.assoc ?_
  refine W.seq (W.chunk ?_)
  simp (disch := first | omega | exact getEq rfl | exact getO0 | exact Nat.le_of_ble_eq_true rfl) [c45_o27, app_growP, app_noneP, plus_N, plus_at0, put_plus0, put_plus1, upd_N, upd_size, q]
  refine W.seq (W.block ?_)
  refine W.use (l5) (by simp (disch := first | omega | exact getEq rfl | exact getO0 | exact Nat.le_of_ble_eq_true rfl) [app_growP, app_noneP, plus_N, plus_at0, put_plus0, put_plus1, upd_N, upd_size, q]) fun s1 H1 hp => ?_
  obtain ⟨rfl, q⟩ := hp
  try simp only [thenW_n, thenW_e, thenW_r, blkW_n, blkW_e, blkW_r, if_true]
  refine W.chunk ?_
  simp (disch := first | omega | exact getEq rfl | exact getO0 | exact Nat.le_of_ble_eq_true rfl) [c45_o34, app_growP, app_noneP, plus_N, plus_at0, put_plus0, put_plus1, upd_N, upd_size, q, hix, hc, km, p2]
  refine W.chunk ?_
  simp (disch := first | omega | exact getEq rfl | exact getO0 | exact Nat.le_of_ble_eq_true rfl) [c45_o35, app_growP, app_noneP, plus_N, plus_at0, put_plus0, put_plus1, upd_N, upd_size, q]
  exact kR _ _ ⟨_, _, qs3, by simp [T.get, q]⟩
theorem c45_l6_ok (J : CallF) (h : Heap) (hm : isMat M = true) {b v : Nat} {cs : List AV} (mx : MX (frameOf h) M b v cs) : Tr tbl J c45_l6 (fun s H => ∃ q rs, QS h H M 0 q rs ∧ s.get [] = .slice b 0 M.length v ∧ s.get [false, false] = G M.length ∧ s.get [true, false] = .slice h.size 0 (M.length + 1) (M.length + 1) ∧ s.get [false, true] = .slice q 0 M.length M.length ∧ s.get [false, false, false] = G ((0 + 1 : Nat) : Int)) (.exit 2)
    (fun s H => ∃ q rs, QS h H M M.length q rs ∧ s.get [true, false] = .slice h.size 0 (M.length + 1) (M.length + 1)) := by
  have h8 := isMat_n hm
  refine Tr.rounds (P := fun k s H => ∃ q rs, QS h H M k q rs ∧ s.get [] = .slice b 0 M.length v ∧ s.get [false, false] = G M.length ∧ s.get [true, false] = .slice h.size 0 (M.length + 1) (M.length + 1) ∧ s.get [false, true] = .slice q 0 M.length M.length ∧ s.get [false, false, false] = G ((k + 1 : Nat) : Int)) (M := M.length) (fun k hk => c45_step J h hm mx hk) ?_ (by simp) 0 (by omega)
  refine Tr.w fun s1 H1 hp R kR => W.trim ?_
  obtain ⟨q0, rs, qs, q⟩ := hp
  clear mx
  generalize hn : M.length = n at *
  refine W.assoc ?_
  refine W.seq (W.chunk ?_)
  simp (disch := first | omega | exact getEq rfl | exact getO0 | exact Nat.le_of_ble_eq_true rfl) [c45_o10, app_growP, app_noneP, plus_N, plus_at0, put_plus0, put_plus1, upd_N, upd_size, q]
  refine W.seq (W.chunk ?_)
  simp (disch := first | omega | exact getEq rfl | exact getO0 | exact Nat.le_of_ble_eq_true rfl) [app_growP, app_noneP, plus_N, plus_at0, put_plus0, put_plus1, upd_N, upd_size, q]
  exact kR _ _ ⟨_, _, qs, by simp [T.get, q]⟩
/-- Rows of zeros. -/
def zR (n i : Nat) : List (List AV) := (List.range i).map fun i => gs (rwL (fun _ => 0) n i)
theorem zR_s (n i : Nat) : zR n (i + 1) = zR n i ++ [gs (rwL (fun _ => 0) n i)] := by simp [zR, List.range_succ]
theorem c45_l0_ok (J : CallF) {H0 : Heap} {y xo : AV} {n : Nat} (hn : n ≤ 8) : Tr tbl J c45_l0 (fun s h => h = H0 ∧ s.get [] = y ∧ s.get [false, false] = G n ∧ s.get [true, false] = xo ∧ s.get [false, true] = .nils ∧ s.get [true, true] = G ((0 : Nat) : Int)) (.exit 0) (fun s h => ∃ x, TB H0 h x (zR n n) ∧ s.get [] = y ∧ s.get [false, false] = G n ∧ s.get [true, false] = xo ∧ s.get [false, true] = x) := by
  refine Tr.pre (P := fun s h => ∃ x, TB H0 h x (zR n 0) ∧ s.get [] = y ∧ s.get [false, false] = G n ∧ s.get [true, false] = xo ∧ s.get [false, true] = x ∧ s.get [true, true] = G ((0 : Nat) : Int)) (fun s h q => ⟨.nils, by rw [q.1]; exact TB.nil H0, q.2⟩) ?_
  refine Tr.rounds (P := fun i s h => ∃ x, TB H0 h x (zR n i) ∧ s.get [] = y ∧ s.get [false, false] = G n ∧ s.get [true, false] = xo ∧ s.get [false, true] = x ∧ s.get [true, true] = G i) (M := n) (fun i hi => ?_) ?_ (by simp) 0 (by omega)
  · refine Tr.w fun s1 H1 hp R kR => W.trim ?_
    obtain ⟨x, tb, q⟩ := hp
    have mk1 := fun H => mkSl_ok H 8 (G 0) n (n : Int) rfl (by omega)
    have rp := gl_rep n
    have ez : gs (lf (fun _ => 0) n) = gs (rwL (fun _ => 0) n i) := rfl
    have lr : (gs (rwL (fun _ => 0) n i)).length = n := by simp [rwL, lf_len]
    have k1 : Kp (fun _ => False) H1 (H1.plus [.cells 1 n (gs (rwL (fun _ => 0) n i))]) := Kp.plus _ _
    obtain ⟨x1, e, h2, q1, q2, tb2, _⟩ := (tb.kp k1).app (cs := gs (rwL (fun _ => 0) n i)) (b := H1.size) H1.size (by rw [lr]; exact plus_at0 _ _ _ _ rfl) ⟨fun e => by
      obtain ⟨rs, lv, _⟩ := tb.r
      have := lv.lt e; omega, tb.k.size⟩ (by simp [zR]; omega)
    rw [← zR_s] at tb2
    rw [lr] at q1 q2
    have f1 := app1_at (H1.plus [.cells 1 n (gs (rwL (fun _ => 0) n i))]) (.slice H1.size 0 n n)
    rw [ez] at rp
    clear tb ez
    generalize gs (rwL (fun _ => 0) n i) = c2 at *
    refine W.assoc ?_
    refine W.seq (W.chunk ?_)
    simp (disch := first | omega | exact getEq rfl | exact getO0 | exact Nat.le_of_ble_eq_true rfl) [c45_o6, app_growP, app_noneP, plus_N, plus_at0, put_plus0, put_plus1, upd_N, upd_size, q]
    refine W.seq (W.chunk ?_)
    simp (disch := first | omega | exact getEq rfl | exact getO0 | exact Nat.le_of_ble_eq_true rfl) [app_growP, app_noneP, plus_N, plus_at0, put_plus0, put_plus1, upd_N, upd_size, q]
    refine W.seq (W.block ?_)
    refine W.chunk ?_
    simp (disch := first | omega | exact getEq rfl | exact getO0 | exact Nat.le_of_ble_eq_true rfl) [-act, c45_o7, app_growP, app_noneP, plus_N, plus_at0, put_plus0, put_plus1, upd_N, upd_size, q, act_move, act_mkSl, act_bs, act_app, mk1, rp, elems, rdOf, f1, q1, q2]
    refine W.chunk ?_
    simp (disch := first | omega | exact getEq rfl | exact getO0 | exact Nat.le_of_ble_eq_true rfl) [c45_o8, app_growP, app_noneP, plus_N, plus_at0, put_plus0, put_plus1, upd_N, upd_size, q]
    exact kR _ _ ⟨_, tb2, by simp [T.get, q]⟩
  · refine Tr.w fun s1 H1 hp R kR => W.trim ?_
    obtain ⟨x, tb, q⟩ := hp
    refine W.assoc ?_
    refine W.seq (W.chunk ?_)
    simp (disch := first | omega | exact getEq rfl | exact getO0 | exact Nat.le_of_ble_eq_true rfl) [c45_o6, app_growP, app_noneP, plus_N, plus_at0, put_plus0, put_plus1, upd_N, upd_size, q]
    refine W.seq (W.chunk ?_)
    simp (disch := first | omega | exact getEq rfl | exact getO0 | exact Nat.le_of_ble_eq_true rfl) [app_growP, app_noneP, plus_N, plus_at0, put_plus0, put_plus1, upd_N, upd_size, q]
    exact kR _ _ ⟨_, tb, by simp [T.get, q]⟩
theorem c45_ok (J : CallF) (hJ : ∀ a h, J 45 a h = none) (h : Heap) {y : AV} (hy : MR h y M) (hm : isMat M = true) : ∃ v own, CallsTo tbl J 45 [y] h (v, own, false) ∧ NG h (h.plus own) v (pyL M) := by
  refine Tr.fny (cf := c45) (e := .ret) (s := T.set .leaf [] y) (by decide) rfl (hJ _ _) rfl rfl (by simp) ?_
  have h8 := isMat_n hm
  obtain ⟨b, v, cs, rfl, mx⟩ := (hy.lo []).mx hm
  have mx : MX (frameOf h) M b v cs := mx
  have fs : (frameOf h).size = h.size := by simp [frameOf, Heap.size]
  have mk1 := fun H => mkSl_ok H 8 (G 0) (M.length + 1) ((M.length : Int) + 1) (by omega) (by omega)
  have rg := gl_rep (M.length + 1)
  have lg := gl_len (fun _ => 0) (M.length + 1)
  have es : (gs (lf (fun _ => 0) (M.length + 1))).set M.length (G 1) = gs (lf (pQ M 0).2 (M.length + 1)) := by
    rw [gl_set _ _ _ _ (by omega)]
    congr 1
  have k0 : Kp (fun _ => False) (frameOf h) ((frameOf h).plus [.cells 1 (M.length + 1) (gs (lf (pQ M 0).2 (M.length + 1)))]) := Kp.plus _ _
  have g0 : ((frameOf h).plus [.cells 1 (M.length + 1) (gs (lf (pQ M 0).2 (M.length + 1)))]).get h.size = .cells 1 (M.length + 1) (gs (lf (pQ M 0).2 (M.length + 1))) := plus_at0 _ _ _ _ fs
  have s0 : h.size < ((frameOf h).plus [.cells 1 (M.length + 1) (gs (lf (pQ M 0).2 (M.length + 1)))]).size := by rw [plus_size, fs]; simp
  have lo := c45_l0_ok (y := .slice b 0 M.length v) (xo := .slice (frameOf h).size 0 (M.length + 1) (M.length + 1)) (H0 := (frameOf h).plus [.cells 1 (M.length + 1) (gs (lf (pQ M 0).2 (M.length + 1)))]) J h8.2
  have l6 := c45_l6_ok J h hm mx
  refine Tr.w fun s1 H1 hp R kR => ?_
  obtain ⟨rfl, rfl⟩ := hp
  have q : True := trivial
  refine W.seq (W.chunk ?_)
  simp (disch := first | omega | exact getEq rfl | exact getO0 | exact Nat.le_of_ble_eq_true rfl) [c45_o0, app_growP, app_noneP, plus_N, plus_at0, put_plus0, put_plus1, upd_N, upd_size, q]
  refine W.seq (W.chunk ?_)
  simp (disch := first | omega | exact getEq rfl | exact getO0 | exact Nat.le_of_ble_eq_true rfl) [c45_o1, app_growP, app_noneP, plus_N, plus_at0, put_plus0, put_plus1, upd_N, upd_size, q]
  refine W.seq (W.chunk ?_)
  simp (disch := first | omega | exact getEq rfl | exact getO0 | exact Nat.le_of_ble_eq_true rfl) [-act, c45_o2, app_growP, app_noneP, plus_N, plus_at0, put_plus0, put_plus1, upd_N, upd_size, q, act_move, act_mkSl, act_bin, mk1, rg]
  refine W.seq (W.chunk ?_)
  simp (disch := first | omega | exact getEq rfl | exact getO0 | exact Nat.le_of_ble_eq_true rfl) [c45_o3, app_growP, app_noneP, plus_N, plus_at0, put_plus0, put_plus1, upd_N, upd_size, q, lg, es]
  refine W.seq (W.chunk ?_)
  simp (disch := first | omega | exact getEq rfl | exact getO0 | exact Nat.le_of_ble_eq_true rfl) [c45_o4, app_growP, app_noneP, plus_N, plus_at0, put_plus0, put_plus1, upd_N, upd_size, q]
  refine W.assoc ?_
  refine W.seq (W.chunk ?_)
  simp (disch := first | omega | exact getEq rfl | exact getO0 | exact Nat.le_of_ble_eq_true rfl) [c45_o5, app_growP, app_noneP, plus_N, plus_at0, put_plus0, put_plus1, upd_N, upd_size, q]
  refine W.seq (W.block ?_)
  refine W.use (lo) (by simp (disch := first | omega | exact getEq rfl | exact getO0 | exact Nat.le_of_ble_eq_true rfl) [app_growP, app_noneP, plus_N, plus_at0, put_plus0, put_plus1, upd_N, upd_size, q]) fun s1 H1 hp => ?_
  obtain ⟨x, tb, q⟩ := hp
  try simp only [thenW_n, thenW_e, thenW_r, blkW_n, blkW_e, blkW_r, if_true]
  have kp := k0.trans tb.k
  obtain ⟨q1, rs1, rfl, t1⟩ := TB.tq (X := (pQ M 0).1) tb (by omega) s0
  have qs0 : QS h H1 M 0 q1 rs1 := ⟨kp, Nat.lt_of_lt_of_le s0 tb.k.size, tb.k.at g0 (by simp) id, t1⟩
  have qe : ∃ x, QS h H1 M 0 q1 x := ⟨_, qs0⟩
  rw [fs] at q
  refine W.assoc ?_
  refine W.seq (W.chunk ?_)
  simp (disch := first | omega | exact getEq rfl | exact getO0 | exact Nat.le_of_ble_eq_true rfl) [c45_o9, app_growP, app_noneP, plus_N, plus_at0, put_plus0, put_plus1, upd_N, upd_size, q]
  refine W.seq (W.block ?_)
  refine W.use (l6) (by simp (disch := first | omega | exact getEq rfl | exact getO0 | exact Nat.le_of_ble_eq_true rfl) [app_growP, app_noneP, plus_N, plus_at0, put_plus0, put_plus1, upd_N, upd_size, q, qe]) fun s1 H1 hp => ?_
  obtain ⟨q2, rs2, qs, q⟩ := hp
  try simp only [thenW_n, thenW_e, thenW_r, blkW_n, blkW_e, blkW_r, if_true]
  refine W.seq (W.chunk ?_)
  simp (disch := first | omega | exact getEq rfl | exact getO0 | exact Nat.le_of_ble_eq_true rfl) [c45_o36, app_growP, app_noneP, plus_N, plus_at0, put_plus0, put_plus1, upd_N, upd_size, q]
  refine W.ret ?_
  try simp only [thenW_n, thenW_e, thenW_r, blkW_n, blkW_e, blkW_r, if_true]
  have ng : NG (frameOf h) H1 (.slice h.size 0 (M.length + 1) (M.length + 1)) (pyL M) := ⟨qs.kp, fun q hq => by cases hq; omega, .inr ⟨h.size, by rw [show (gs (pyL M)).length = M.length + 1 from gl_len _ _], by rw [show (gs (pyL M)).length = M.length + 1 from gl_len _ _]; exact qs.go, by rw [qs.kp.N]; simp [frameOf]⟩⟩
  exact kR _ _ ⟨[.slice h.size 0 (M.length + 1) (M.length + 1)], by simp [T.get, c45, evRess, evRes, q], ng.fr0⟩
end

/-! ### What is known -/
def Post45 (a : AM) (h : Heap) (v : AV) (own : List AObj) : Prop := NG h (h.plus own) v (pyL a.M)
noncomputable def T19 : CallF := addK tbl T18 45 PreO Post45
theorem t19 : Sound Go.Proofs.Try.prog T19 := Sound.addK follows ok t18 (by decide) _ _
abbrev K45 (J : CallF) : Prop := ∀ (h : Heap) (a : AM), MR h a.y a.M → isMat a.M = true → ∃ v own, J 45 [a.y] h = some (v, own, false) ∧ NG h (h.plus own) v (pyL a.M)
theorem k45 : K45 T19 := fun h a ha hm => addK_some (Pre := PreO) (Post := Post45) (fun a args h hp => by
  obtain ⟨⟨hy, hm⟩, rfl⟩ := hp
  exact c45_ok T18 (fun _ _ => by simp (disch := decide) only [T18, T17, T16, T15, T14, T13, T12, T11, T10, T9, T8, T7, T6, T5, T4, T3, T2, T1, R21, R20, R19, R18, R17, R16, R15, R14, R13, R12, R11, R10, R9, R8, R7, R6, R5, R4, R3, R2, R1, addI_ne, addX_ne, addV_ne, addK_ne]; rfl) h hy hm) a _ h ⟨⟨ha, hm⟩, rfl⟩

end Go.Proofs.Ytjeemgaoonapgaa.Ev
