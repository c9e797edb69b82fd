/-
  The reference's Power, and what is known of both. No condition.
-/
import Derived.Test.YtjeemgaoonapgaaRPow5
set_option linter.unusedVariables false
set_option linter.unusedSimpArgs false
namespace Go.Proofs.Ytjeemgaoonapgaa.Ev
open Go Go.AEv

attribute [local simp] evFunc initS evOps_c evTrim_c evSkip_c evExit_c evRet_c evSeq_c evCond_c evBlock_c evDraw_c runOps_n runOps_c exec_n exec_g pure1_c act AOpd.ev T.get T.set T.put evBin evUn forceT_eq forceV_eq forceL_eq evRess evRes one keep runFP_n runFP_c app_none AV.flats AV.flat came_some List.getElem?_cons_zero List.getElem?_cons_succ beqT wrapI idxI tdivI tmodI decT decF ibT ibF inT inF evScope_c if_pos if_neg Cm_some thenW_n thenW_e thenW_r blkW_n blkW_e blkW_r goI kn putAt AV.cells fillA loadA takeA mk Eff.isAll Eff.isNone Eff.commutes Eff.spares okPair apart eqAgg fits LK.fits allEq aveq eqk mmA

theorem TB.base {H0 H1 H : Heap} {x : AV} {L : List (List AV)} (k : Kp (fun _ => False) H0 H1) (t : TB H1 H x L) : TB H0 H x L := by
  obtain ⟨rs, lv, hl, hr⟩ := t.r
  exact ⟨k.trans t.k, fun q hq => Nat.le_trans k.size (t.x0 q hq), rs, lv, hl, fun i r hi => by
    obtain ⟨cs, b, h1, h2, h3, h4, h5⟩ := hr i r hi
    exact ⟨cs, b, h1, h2, h3, h4, Nat.le_trans k.size h5⟩⟩
section
variable {M : List (List Int)}
theorem nxR_n (k : Nat) : nxR M (pwX M k) M.length = (pwL M (k + 1)).map gs := by
  unfold nxR pwL
  rw [List.map_map]; rfl
theorem pwL_len (k : Nat) : ((pwL M k).map gs).length = M.length := by simp [pwL]
theorem pwL_at (k : Nat) {i : Nat} (hi : i < M.length) : ((pwL M k).map gs)[i]? = some (gs (rwL (pwX M k) M.length i)) := by simp [pwL, hi]
theorem c46_l4_ok (J : CallF) (hm : isMat M = true) {H0 : Heap} {b v k : Nat} {cs : List AV} (mx : MX H0 M b v cs) (hk : k ≤ 100) : ∀ d m, m + d = k → okP M m →
    (okP M k → Tr tbl J c46_l4 (fun s h => ∃ x, TB H0 h x ((pwL M m).map gs) ∧ s.get [] = .slice b 0 M.length v ∧ s.get [false] = G k ∧ s.get [true, true] = G M.length ∧ s.get [false, false, false] = x ∧ s.get [true, true, false] = G m) (.exit 2) (fun s h => ∃ x, TB H0 h x ((pwL M k).map gs) ∧ s.get [false, false, false] = x)) ∧
    (¬ okP M k → Tr tbl J c46_l4 (fun s h => ∃ x, TB H0 h x ((pwL M m).map gs) ∧ s.get [] = .slice b 0 M.length v ∧ s.get [false] = G k ∧ s.get [true, true] = G M.length ∧ s.get [false, false, false] = x ∧ s.get [true, true, false] = G m) .ret (fun s h => s.get [true, false] = .nils ∧ s.get [false, true] = .bool false)) := by
  have h8 := isMat_n hm
  intro d
  induction d with
  | zero =>
    intro m hmk ho
    obtain rfl : m = k := by omega
    refine ⟨fun _ => Tr.out ?_ (by simp), fun c => absurd ho c⟩
    clear mx
    refine Tr.w fun s1 H1 hp R kR => W.trim ?_
    obtain ⟨x, tb, q⟩ := hp
    refine W.assoc ?_
    refine W.seq (W.chunk ?_)
    simp (disch := first | omega | exact getEq rfl | exact getO0 | exact Nat.le_of_ble_eq_true rfl) [c46_o10, app_growP, app_noneP, plus_N, plus_at0, put_plus0, put_plus1, upd_N, upd_size, q]
    refine W.seq (W.chunk ?_)
    simp (disch := first | omega | exact getEq rfl | exact getO0 | exact Nat.le_of_ble_eq_true rfl) [app_growP, app_noneP, plus_N, plus_at0, put_plus0, put_plus1, upd_N, upd_size, q]
    exact kR _ _ ⟨x, tb, by simp [T.get, q]⟩
  | succ d ih =>
    intro m hmk ho
    have hX := pwX_bd hm ho
    have E : ∀ H x, TB H0 H x ((pwL M m).map gs) → ∃ q0 rs, x = .slice q0 0 M.length M.length ∧ E46 M (pwX M m) H b v q0 cs rs := fun H x tb => by
      obtain ⟨q0, rs, e, gq, lq, hr⟩ := tb.sl (i := 0) (by rw [pwL_len]; omega)
      rw [pwL_len] at e gq
      refine ⟨q0, rs, e, mx.kp tb.k, gq, fun i hi => ?_⟩
      obtain ⟨b2, e1, e2⟩ := hr i _ (pwL_at m hi)
      have lr : (gs (rwL (pwX M m) M.length i)).length = M.length := by simp [rwL, lf_len]
      rw [lr] at e1 e2
      exact ⟨b2, e1, e2⟩
    by_cases c : prOk M (pwX M m) 0
    · obtain ⟨ih1, ih2⟩ := ih (m + 1) (by omega) (okP_s.2 ⟨ho, c⟩)
      have step : Tr tbl J (.trim [[], [false], [true, true], [false, false, false], [true, true, false]] c46_b4) (fun s h => ∃ x, TB H0 h x ((pwL M m).map gs) ∧ s.get [] = .slice b 0 M.length v ∧ s.get [false] = G k ∧ s.get [true, true] = G M.length ∧ s.get [false, false, false] = x ∧ s.get [true, true, false] = G m) .normal (fun s h => ∃ x, TB H0 h x ((pwL M (m + 1)).map gs) ∧ s.get [] = .slice b 0 M.length v ∧ s.get [false] = G k ∧ s.get [true, true] = G M.length ∧ s.get [false, false, false] = x ∧ s.get [true, true, false] = G ((m + 1 : Nat) : Int)) := by
        clear ih1 ih2 ih
        refine Tr.w fun s1 H1 hp R kR => W.trim ?_
        obtain ⟨x, tb, q⟩ := hp
        obtain ⟨q0, rs, rfl, E⟩ := E H1 x tb
        obtain ⟨l1, _⟩ := c46_i (k := k) (m := m) J hm hX E M.length 0 (by omega)
        have l1 := l1 c
        have t0 := TB.nil H1
        have k0 := tb.k
        have en : nxR M (pwX M m) 0 = [] := rfl
        clear tb E mx
        refine W.assoc ?_
        refine W.seq (W.chunk ?_)
        simp (disch := first | omega | exact getEq rfl | exact getO0 | exact Nat.le_of_ble_eq_true rfl) [c46_o10, app_growP, app_noneP, plus_N, plus_at0, put_plus0, put_plus1, upd_N, upd_size, q]
        refine W.seq (W.chunk ?_)
        simp (disch := first | omega | exact getEq rfl | exact getO0 | exact Nat.le_of_ble_eq_true rfl) [app_growP, app_noneP, plus_N, plus_at0, put_plus0, put_plus1, upd_N, upd_size, q]
        refine W.seq (W.block ?_)
        refine W.seq (W.chunk ?_)
        simp (disch := first | omega | exact getEq rfl | exact getO0 | exact Nat.le_of_ble_eq_true rfl) [c46_o11, app_growP, app_noneP, plus_N, plus_at0, put_plus0, put_plus1, upd_N, upd_size, q]
        refine W.assoc ?_
        refine W.seq (W.chunk ?_)
        simp (disch := first | omega | exact getEq rfl | exact getO0 | exact Nat.le_of_ble_eq_true rfl) [c46_o12, app_growP, app_noneP, plus_N, plus_at0, put_plus0, put_plus1, upd_N, upd_size, q]
        refine W.seq (W.block ?_)
        refine W.use (l1) (by simp (disch := first | omega | exact getEq rfl | exact getO0 | exact Nat.le_of_ble_eq_true rfl) [app_growP, app_noneP, plus_N, plus_at0, put_plus0, put_plus1, upd_N, upd_size, q, t0, en]) fun s1 H1 hp => ?_
        obtain ⟨xn, tb, q⟩ := hp
        try simp only [thenW_n, thenW_e, thenW_r, blkW_n, blkW_e, blkW_r, if_true]
        have tb' := TB.base k0 tb
        rw [nxR_n] at tb'
        refine W.chunk ?_
        simp (disch := first | omega | exact getEq rfl | exact getO0 | exact Nat.le_of_ble_eq_true rfl) [c46_o29, app_growP, app_noneP, plus_N, plus_at0, put_plus0, put_plus1, upd_N, upd_size, q]
        refine W.chunk ?_
        simp (disch := first | omega | exact getEq rfl | exact getO0 | exact Nat.le_of_ble_eq_true rfl) [c46_o30, app_growP, app_noneP, plus_N, plus_at0, put_plus0, put_plus1, upd_N, upd_size, q]
        exact kR _ _ ⟨xn, tb', by simp [T.get, q]⟩
      exact ⟨fun q => Tr.next step (ih1 q), fun q => Tr.next step (ih2 q)⟩
    · refine ⟨fun q => absurd (q m (by omega)) c, fun _ => Tr.out ?_ (by simp)⟩
      clear ih
      refine Tr.w fun s1 H1 hp R kR => W.trim ?_
      obtain ⟨x, tb, q⟩ := hp
      obtain ⟨q0, rs, rfl, E⟩ := E H1 x tb
      obtain ⟨_, l2⟩ := c46_i (k := k) (m := m) J hm hX E M.length 0 (by omega)
      have l2 := l2 c
      have t0 := TB.nil H1
      have en : nxR M (pwX M m) 0 = [] := rfl
      clear tb E mx
      refine W.assoc ?_
      refine W.seq (W.chunk ?_)
      simp (disch := first | omega | exact getEq rfl | exact getO0 | exact Nat.le_of_ble_eq_true rfl) [c46_o10, app_growP, app_noneP, plus_N, plus_at0, put_plus0, put_plus1, upd_N, upd_size, q]
      refine W.seq (W.chunk ?_)
      simp (disch := first | omega | exact getEq rfl | exact getO0 | exact Nat.le_of_ble_eq_true rfl) [app_growP, app_noneP, plus_N, plus_at0, put_plus0, put_plus1, upd_N, upd_size, q]
      refine W.seq (W.block ?_)
      refine W.seq (W.chunk ?_)
      simp (disch := first | omega | exact getEq rfl | exact getO0 | exact Nat.le_of_ble_eq_true rfl) [c46_o11, app_growP, app_noneP, plus_N, plus_at0, put_plus0, put_plus1, upd_N, upd_size, q]
      refine W.assoc ?_
      refine W.seq (W.chunk ?_)
      simp (disch := first | omega | exact getEq rfl | exact getO0 | exact Nat.le_of_ble_eq_true rfl) [c46_o12, app_growP, app_noneP, plus_N, plus_at0, put_plus0, put_plus1, upd_N, upd_size, q]
      refine W.seq (W.block ?_)
      refine W.use (l2) (by simp (disch := first | omega | exact getEq rfl | exact getO0 | exact Nat.le_of_ble_eq_true rfl) [app_growP, app_noneP, plus_N, plus_at0, put_plus0, put_plus1, upd_N, upd_size, q, t0, en]) fun s1 H1 hp => ?_
      try simp only [thenW_n, thenW_e, thenW_r, blkW_n, blkW_e, blkW_r, if_true]
      exact kR _ _ hp
/-- The first rows of the power 0. -/
def onR (n i : Nat) : List (List AV) := (List.range i).map fun i => gs (rwL (onF n) n i)
theorem onR_s (n i : Nat) : onR n (i + 1) = onR n i ++ [gs (rwL (onF n) n i)] := by simp [onR, List.range_succ]
theorem on_set {n i : Nat} (hi : i < n) (hn : n ≤ 8) : (gs (lf (fun _ => 0) n)).set i (G 1) = gs (rwL (onF n) n i) := by
  rw [gl_set _ _ _ _ hi]
  unfold rwL
  congr 1
  apply lf_ext
  intro z hz
  unfold onF
  by_cases e : z = i
  · rw [if_pos e, if_pos (by omega)]
  · rw [if_neg e, if_neg (by omega)]
theorem c46_l0_ok (J : CallF) {H0 : Heap} {b v n k : Nat} (hn : n ≤ 8) : Tr tbl J c46_l0 (fun s h => h = H0 ∧ s.get [] = .slice b 0 n v ∧ s.get [false] = G k ∧ s.get [true, true] = G n ∧ s.get [false, false, false] = .nils ∧ s.get [true, false, false] = G ((0 : Nat) : Int)) (.exit 0) (fun s h => ∃ x, TB H0 h x (onR n n) ∧ s.get [] = .slice b 0 n v ∧ s.get [false] = G k ∧ s.get [true, true] = G n ∧ s.get [false, false, false] = x) := by
  refine Tr.pre (P := fun s h => ∃ x, TB H0 h x (onR n 0) ∧ s.get [] = .slice b 0 n v ∧ s.get [false] = G k ∧ s.get [true, true] = G n ∧ s.get [false, false, false] = x ∧ s.get [true, false, false] = G ((0 : Nat) : Int)) (fun s h q => ⟨.nils, by rw [q.1]; exact TB.nil H0, q.2⟩) ?_
  refine Tr.rounds (P := fun i s h => ∃ x, TB H0 h x (onR n i) ∧ s.get [] = .slice b 0 n v ∧ s.get [false] = G k ∧ s.get [true, true] = G n ∧ s.get [false, false, false] = x ∧ s.get [true, false, false] = G i) (M := n) (fun i hi => ?_) ?_ (by simp) 0 (by omega)
  · refine Tr.w fun s1 H1 hp R kR => W.trim ?_
    obtain ⟨x, tb, q⟩ := hp
    have mk1 := fun H => mkSl_ok H 8 (G 0) n (n : Int) rfl (by omega)
    have rp := gl_rep n
    have es := on_set hi hn
    have lz := gl_len (fun _ => 0) n
    have lr : (gs (rwL (onF n) n i)).length = n := by simp [rwL, lf_len]
    have k1 : Kp (fun _ => False) H1 (H1.plus [.cells 1 n (gs (rwL (onF n) n i))]) := Kp.plus _ _
    obtain ⟨x1, e, h2, q1, q2, tb2, _⟩ := (tb.kp k1).app (cs := gs (rwL (onF n) n i)) (b := H1.size) (H1.plus [.cells 1 n (gs (rwL (onF n) n i))]).size (by rw [lr]; exact plus_at0 _ _ _ _ rfl) ⟨fun e => by
      obtain ⟨rs, lv, _⟩ := tb.r
      have := lv.lt e; omega, tb.k.size⟩ (by simp [onR]; omega)
    rw [← onR_s] at tb2
    rw [lr] at q1 q2
    have f1 := app1_at (H1.plus [.cells 1 n (gs (rwL (onF n) n i))]) (.slice H1.size 0 n n)
    clear tb
    generalize gs (rwL (onF n) n i) = c2 at *
    generalize gs (lf (fun _ => 0) n) = cz at *
    refine W.assoc ?_
    refine W.seq (W.chunk ?_)
    simp (disch := first | omega | exact getEq rfl | exact getO0 | exact Nat.le_of_ble_eq_true rfl) [c46_o4, app_growP, app_noneP, plus_N, plus_at0, put_plus0, put_plus1, upd_N, upd_size, q]
    refine W.seq (W.chunk ?_)
    simp (disch := first | omega | exact getEq rfl | exact getO0 | exact Nat.le_of_ble_eq_true rfl) [app_growP, app_noneP, plus_N, plus_at0, put_plus0, put_plus1, upd_N, upd_size, q]
    refine W.seq (W.block ?_)
    refine W.seq (W.chunk ?_)
    simp (disch := first | omega | exact getEq rfl | exact getO0 | exact Nat.le_of_ble_eq_true rfl) [-act, c46_o5, app_growP, app_noneP, plus_N, plus_at0, put_plus0, put_plus1, upd_N, upd_size, q, act_move, act_mkSl, mk1, rp]
    refine W.seq (W.chunk ?_)
    simp (disch := first | omega | exact getEq rfl | exact getO0 | exact Nat.le_of_ble_eq_true rfl) [c46_o6, app_growP, app_noneP, plus_N, plus_at0, put_plus0, put_plus1, upd_N, upd_size, q, lz, es]
    refine W.chunk ?_
    simp (disch := first | omega | exact getEq rfl | exact getO0 | exact Nat.le_of_ble_eq_true rfl) [c46_o7, app_growP, app_noneP, plus_N, plus_at0, put_plus0, put_plus1, upd_N, upd_size, q, elems, rdOf, f1, q1, q2]
    refine W.chunk ?_
    simp (disch := first | omega | exact getEq rfl | exact getO0 | exact Nat.le_of_ble_eq_true rfl) [c46_o8, app_growP, app_noneP, plus_N, plus_at0, put_plus0, put_plus1, upd_N, upd_size, q]
    exact kR _ _ ⟨_, tb2, by simp [T.get, q]⟩
  · refine Tr.w fun s1 H1 hp R kR => W.trim ?_
    obtain ⟨x, tb, q⟩ := hp
    refine W.assoc ?_
    refine W.seq (W.chunk ?_)
    simp (disch := first | omega | exact getEq rfl | exact getO0 | exact Nat.le_of_ble_eq_true rfl) [c46_o4, app_growP, app_noneP, plus_N, plus_at0, put_plus0, put_plus1, upd_N, upd_size, q]
    refine W.seq (W.chunk ?_)
    simp (disch := first | omega | exact getEq rfl | exact getO0 | exact Nat.le_of_ble_eq_true rfl) [app_growP, app_noneP, plus_N, plus_at0, put_plus0, put_plus1, upd_N, upd_size, q]
    exact kR _ _ ⟨_, tb, by simp [T.get, q]⟩
theorem c46_ok (J : CallF) (hJ : ∀ a h, J 46 a h = none) (h : Heap) {y : AV} (hy : MR h y M) (hm : isMat M = true) {k : Nat} (hk : k ≤ 100) : ∃ v own, CallsTo tbl J 46 [y, G k] h (v, own, false) ∧ (¬ okP M k → v = .tup [.nils, .bool false] ∧ own = []) ∧ (okP M k → ∃ w, v = .tup [w, .bool true] ∧ TB h (h.plus own) w ((pwL M k).map gs)) := by
  refine Tr.fny (cf := c46) (e := .ret) (s := T.set (T.set .leaf [] y) [false] (G k)) (by decide) rfl (hJ _ _) rfl rfl (by simp) ?_
  have h8 := isMat_n hm
  obtain ⟨b, v, cs, rfl, mx⟩ := (hy.lo []).mx hm
  have mx : MX (frameOf h) M b v cs := mx
  have lo := c46_l0_ok (b := b) (v := v) (k := k) (H0 := frameOf h) J h8.2
  obtain ⟨l1, l2⟩ := c46_l4_ok J hm mx hk k 0 (by omega) (fun m hm => absurd hm (by omega))
  have en : onR M.length M.length = (pwL M 0).map gs := by unfold onR pwL; rw [List.map_map]; rfl
  rw [en] at lo
  clear mx hy
  refine Tr.w fun s1 H1 hp R kR => ?_
  obtain ⟨rfl, rfl⟩ := hp
  have q : True := trivial
  by_cases c : okP M k
  · have l1 := l1 c
    refine W.seq (W.chunk ?_)
    simp (disch := first | omega | exact getEq rfl | exact getO0 | exact Nat.le_of_ble_eq_true rfl) [c46_o0, app_growP, app_noneP, plus_N, plus_at0, put_plus0, put_plus1, upd_N, upd_size, q]
    refine W.seq (W.chunk ?_)
    simp (disch := first | omega | exact getEq rfl | exact getO0 | exact Nat.le_of_ble_eq_true rfl) [c46_o1, app_growP, app_noneP, plus_N, plus_at0, put_plus0, put_plus1, upd_N, upd_size, q]
    refine W.seq (W.chunk ?_)
    simp (disch := first | omega | exact getEq rfl | exact getO0 | exact Nat.le_of_ble_eq_true rfl) [c46_o2, app_growP, app_noneP, plus_N, plus_at0, put_plus0, put_plus1, upd_N, upd_size, q]
    refine W.assoc ?_
    refine W.seq (W.chunk ?_)
    simp (disch := first | omega | exact getEq rfl | exact getO0 | exact Nat.le_of_ble_eq_true rfl) [c46_o3, app_growP, app_noneP, plus_N, plus_at0, put_plus0, put_plus1, upd_N, upd_size, q]
    refine W.seq (W.block ?_)
    refine W.use (lo) (by simp (disch := first | omega | exact getEq rfl | exact getO0 | exact Nat.le_of_ble_eq_true rfl) [app_growP, app_noneP, plus_N, plus_at0, put_plus0, put_plus1, upd_N, upd_size, q]) fun s1 H1 hp => ?_
    obtain ⟨x, tb, q⟩ := hp
    try simp only [thenW_n, thenW_e, thenW_r, blkW_n, blkW_e, blkW_r, if_true]
    refine W.assoc ?_
    refine W.seq (W.chunk ?_)
    simp (disch := first | omega | exact getEq rfl | exact getO0 | exact Nat.le_of_ble_eq_true rfl) [c46_o9, app_growP, app_noneP, plus_N, plus_at0, put_plus0, put_plus1, upd_N, upd_size, q]
    refine W.seq (W.block ?_)
    refine W.use (l1) (by simp (disch := first | omega | exact getEq rfl | exact getO0 | exact Nat.le_of_ble_eq_true rfl) [app_growP, app_noneP, plus_N, plus_at0, put_plus0, put_plus1, upd_N, upd_size, q, tb]) fun s1 H1 hp => ?_
    obtain ⟨x, tb, q⟩ := hp
    try simp only [thenW_n, thenW_e, thenW_r, blkW_n, blkW_e, blkW_r, if_true]
    refine W.seq (W.chunk ?_)
    simp (disch := first | omega | exact getEq rfl | exact getO0 | exact Nat.le_of_ble_eq_true rfl) [c46_o31, app_growP, app_noneP, plus_N, plus_at0, put_plus0, put_plus1, upd_N, upd_size, q]
    refine W.ret ?_
    try simp only [thenW_n, thenW_e, thenW_r, blkW_n, blkW_e, blkW_r, if_true]
    exact kR _ _ ⟨[x, .bool true], by simp [T.get, c46, evRess, evRes, q], fun q => absurd c q, fun _ => ⟨x, rfl, by
      split
      · rename_i hf
        obtain ⟨rs', lv, hl', hr⟩ := tb.r
        rcases lv with ⟨rfl, rfl⟩ | ⟨b, rfl, g, n⟩
        · rw [pwL_len] at hl'; simp at hl'; omega
        · simp [one, AV.flat, AV.flats] at hf
      · exact tb.fr⟩⟩
  · have l2 := l2 c
    refine W.seq (W.chunk ?_)
    simp (disch := first | omega | exact getEq rfl | exact getO0 | exact Nat.le_of_ble_eq_true rfl) [c46_o0, app_growP, app_noneP, plus_N, plus_at0, put_plus0, put_plus1, upd_N, upd_size, q]
    refine W.seq (W.chunk ?_)
    simp (disch := first | omega | exact getEq rfl | exact getO0 | exact Nat.le_of_ble_eq_true rfl) [c46_o1, app_growP, app_noneP, plus_N, plus_at0, put_plus0, put_plus1, upd_N, upd_size, q]
    refine W.seq (W.chunk ?_)
    simp (disch := first | omega | exact getEq rfl | exact getO0 | exact Nat.le_of_ble_eq_true rfl) [c46_o2, app_growP, app_noneP, plus_N, plus_at0, put_plus0, put_plus1, upd_N, upd_size, q]
    refine W.assoc ?_
    refine W.seq (W.chunk ?_)
    simp (disch := first | omega | exact getEq rfl | exact getO0 | exact Nat.le_of_ble_eq_true rfl) [c46_o3, app_growP, app_noneP, plus_N, plus_at0, put_plus0, put_plus1, upd_N, upd_size, q]
    refine W.seq (W.block ?_)
    refine W.use (lo) (by simp (disch := first | omega | exact getEq rfl | exact getO0 | exact Nat.le_of_ble_eq_true rfl) [app_growP, app_noneP, plus_N, plus_at0, put_plus0, put_plus1, upd_N, upd_size, q]) fun s1 H1 hp => ?_
    obtain ⟨x, tb, q⟩ := hp
    try simp only [thenW_n, thenW_e, thenW_r, blkW_n, blkW_e, blkW_r, if_true]
    refine W.assoc ?_
    refine W.seq (W.chunk ?_)
    simp (disch := first | omega | exact getEq rfl | exact getO0 | exact Nat.le_of_ble_eq_true rfl) [c46_o9, app_growP, app_noneP, plus_N, plus_at0, put_plus0, put_plus1, upd_N, upd_size, q]
    refine W.seq (W.block ?_)
    refine W.use (l2) (by simp (disch := first | omega | exact getEq rfl | exact getO0 | exact Nat.le_of_ble_eq_true rfl) [app_growP, app_noneP, plus_N, plus_at0, put_plus0, put_plus1, upd_N, upd_size, q, tb]) fun s1 H1 hp => ?_
    obtain ⟨q1, q2⟩ := hp
    try simp only [thenW_n, thenW_e, thenW_r, blkW_n, blkW_e, blkW_r, if_true]
    exact kR _ _ ⟨[.nils, .bool false], by simp [c46, evRess, evRes, q1, q2], fun _ => (by simp [one, AV.flat, AV.flats]), fun q => absurd q c⟩
end

/-! ### What is known -/
structure A43 where
  M : List (List Int)
  y : AV
  k : Int
def pkOk (a : A43) : Prop := isMat a.M = true ∧ 0 ≤ a.k ∧ a.k ≤ 100
def Pre43 (a : A43) (args : List AV) (h : Heap) : Prop := MR h a.y a.M ∧ args = [a.y, G a.k]
def Post43 (a : A43) (h : Heap) (v : AV) (own : List AObj) : Prop := (¬ pkOk a → v = .tup [.nils, G 2] ∧ own = []) ∧ (pkOk a → ¬ okP a.M a.k.toNat → v = .tup [.nils, G 5] ∧ own = []) ∧ (pkOk a → okP a.M a.k.toNat → ∃ w, v = .tup [w, G 0] ∧ TB h (h.plus own) w ((pwL a.M a.k.toNat).map gs))
noncomputable def T16 : CallF := addK tbl T15 43 Pre43 Post43
theorem t16 : Sound Go.Proofs.Try.prog T16 := Sound.addK follows ok t15 (by decide) _ _
abbrev K43 (J : CallF) : Prop := ∀ (h : Heap) (a : A43), MR h a.y a.M → ∃ v own, J 43 [a.y, G a.k] h = some (v, own, false) ∧ Post43 a h v own
theorem k54_15 : K54 T15 := fun h y M hy => by
  simp (disch := decide) only [T15, T14, T13, T12, T11, T10, T9, T8, T7, T6, T5, T4, T3, T2, T1, R21, R20, R19, R18, R17, R16, R15, R14, R13, R12, R11, R10, R9, R8, R7, R6, R5, R4, R3, R2, R1, addI_ne, addX_ne, addV_ne, addK_ne]
  exact k54 h y M hy
theorem k57_15 : K57 T15 := fun n lo hi h => by
  simp (disch := decide) only [T15, T14, T13, T12, T11, T10, T9, T8, T7, T6, T5, T4, T3, T2, T1, R21, R20, R19, R18, R17, R16, R15, R14, R13, R12, R11, R10, R9, R8, R7, R6, R5, R4, R3, R2, R1, addI_ne, addX_ne, addV_ne, addK_ne]
  exact k57 n lo hi h
theorem k72_15 : K72 T15 := fun h M hm => by
  simp (disch := decide) only [T15, T14, addK_ne]
  exact k72 h M hm
theorem k73_15 : K73 T15 := fun h a ha => by
  simp (disch := decide) only [T15, addK_ne]
  exact k73 h a ha
theorem k43 : K43 T16 := fun h a ha => addK_some (Pre := Pre43) (Post := Post43) (fun a args h hp => by
  obtain ⟨hy, rfl⟩ := hp
  have hn : ∀ a h, T15 43 a h = none := (fun _ _ => by simp (disch := decide) only [T15, T14, T13, T12, T11, T10, T9, T8, T7, T6, T5, T4, T3, T2, T1, R21, R20, R19, R18, R17, R16, R15, R14, R13, R12, R11, R10, R9, R8, R7, R6, R5, R4, R3, R2, R1, addI_ne, addX_ne, addV_ne, addK_ne]; rfl)
  by_cases c : pkOk a
  · obtain ⟨k, hk⟩ : ∃ k : Nat, a.k = k := ⟨a.k.toNat, by have := c.2; omega⟩
    obtain ⟨c1, c2⟩ := id c
    obtain ⟨v, own, e, p1, p2⟩ := c43_ok T15 k54_15 k57_15 k72_15 k73_15 k74 hn h hy c1 (k := k) (by omega)
    rw [hk]
    refine ⟨v, own, e, fun q => absurd c q, fun _ q => p1 ?_, fun _ q => ?_⟩
    · rw [hk] at q; simpa using q
    · rw [hk] at q ⊢; simpa using p2 (by simpa using q)
  · exact ⟨_, _, c43_bad T15 k54_15 k57_15 hn h hy c, fun _ => ⟨rfl, rfl⟩, fun q => absurd q c, fun q => absurd q c⟩) a _ h ⟨ha, rfl⟩
structure A46 where
  M : List (List Int)
  y : AV
  k : Nat
def Ok46 (a : A46) (h : Heap) : Prop := MR h a.y a.M ∧ isMat a.M = true ∧ a.k ≤ 100
def Pre46 (a : A46) (args : List AV) (h : Heap) : Prop := Ok46 a h ∧ args = [a.y, G a.k]
def Post46 (a : A46) (h : Heap) (v : AV) (own : List AObj) : Prop := (¬ okP a.M a.k → v = .tup [.nils, .bool false] ∧ own = []) ∧ (okP a.M a.k → ∃ w, v = .tup [w, .bool true] ∧ TB h (h.plus own) w ((pwL a.M a.k).map gs))
noncomputable def T17 : CallF := addK tbl T16 46 Pre46 Post46
theorem t17 : Sound Go.Proofs.Try.prog T17 := Sound.addK follows ok t16 (by decide) _ _
abbrev K46 (J : CallF) : Prop := ∀ (h : Heap) (a : A46), Ok46 a h → ∃ v own, J 46 [a.y, G a.k] h = some (v, own, false) ∧ Post46 a h v own
theorem k46 : K46 T17 := fun h a ha => addK_some (Pre := Pre46) (Post := Post46) (fun a args h hp => by
  obtain ⟨⟨hy, hm, hk⟩, rfl⟩ := hp
  exact c46_ok T16 (fun _ _ => by simp (disch := decide) only [T16, T15, T14, T13, T12, T11, T10, T9, T8, T7, T6, T5, T4, T3, T2, T1, R21, R20, R19, R18, R17, R16, R15, R14, R13, R12, R11, R10, R9, R8, R7, R6, R5, R4, R3, R2, R1, addI_ne, addX_ne, addV_ne, addK_ne]; rfl) h hy hm hk) a _ h ⟨ha, rfl⟩

end Go.Proofs.Ytjeemgaoonapgaa.Ev
