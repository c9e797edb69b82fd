/-
  The walk of the reference's Walk, and roller.Walk. No condition.
-/
import Derived.Test.YtjeemgaoonapgaaRWlk2
set_option linter.unusedVariables false
set_option linter.unusedSimpArgs false
namespace Go.Proofs.Ytjeemgaoonapgaa.Ev
open Go Go.AEv

attribute [local simp] evFunc initS evOps_c evTrim_c evSkip_c evExit_c evRet_c evSeq_c evCond_c evBlock_c evDraw_c runOps_n runOps_c exec_n exec_g pure1_c act AOpd.ev T.get T.set T.put evBin evUn forceT_eq forceV_eq forceL_eq evRess evRes one keep runFP_n runFP_c app_none AV.flats AV.flat came_some List.getElem?_cons_zero List.getElem?_cons_succ beqT wrapI idxI tdivI tmodI decT decF ibT ibF inT inF evScope_c if_pos if_neg Cm_some thenW_n thenW_e thenW_r blkW_n blkW_e blkW_r goI kn putAt AV.cells fillA loadA takeA mk Eff.isAll Eff.isNone Eff.commutes Eff.spares okPair apart eqAgg fits LK.fits allEq aveq eqk mmA

/-- Told in the caller's memory, if it is one of two results. -/
theorem NG.fr1 {h h' : Heap} {x y : AV} {L : List Int} (t : NG (frameOf h) h' x L) : NG h (h.plus (if (one [x, y]).flat then [] else h'.own)) x L := by
  split
  · rename_i hf
    rcases t.l with ⟨rfl, e⟩ | ⟨b, rfl, g, n⟩
    · have : L = [] := by simpa using e
      subst this
      have : h.plus [] = h := by simp [Heap.plus]
      rw [this]; exact NG.nil h
    · simp [one, AV.flat, AV.flats] at hf
  · exact t.fr
section
variable {M : List (List Int)}
theorem c36_l3_ok (J : CallF) (hm : isMat M = true) {H : Heap} {b v j q0 m t u w q1 L b2 : Nat} {cs cq rs : List AV} (mx : MX H M b v cs) (gq : H.get q0 = .cells 1 (m + 1) cq) (el : cq[m]? = some (G u)) (hq : m ≤ 200) (gc : H.get q1 = .cells 1 L rs) (e11 : rs[t]? = some (.slice b2 0 M.length M.length)) (g2 : H.get b2 = .cells 1 M.length (bls (cw M j t) M.length)) (hL : L ≤ 200) (ht : t < L)
    (hu : u < M.length) (hw : w < M.length) (w1 : 0 < ent M u w) (w2 : cw M j t w = true) (w3 : ∀ z, z < w → ¬ (0 < ent M u z ∧ cw M j t z = true)) :
    ∀ d y, y + d = w → Tr tbl J c36_l3 (fun s h => h = H ∧ s.get [] = .slice b 0 M.length v ∧ s.get [false, false, true] = .slice q1 0 L L ∧ s.get [true, false, false, false] = .slice q0 0 (m + 1) (m + 1) ∧ s.get [false, true, false, false] = G ((t + 1 : Nat) : Int) ∧ s.get [true, true, false, false] = G y) (.exit 8) (fun s h => h = H ∧ s.get [] = .slice b 0 M.length v ∧ s.get [false, false, true] = .slice q1 0 L L ∧ s.get [true, false, false, false] = .slice q0 0 (m + 1) (m + 1) ∧ s.get [false, true, false, false] = G ((t + 1 : Nat) : Int) ∧ s.get [true, true, false, false] = G w) := by
  have h8 := isMat_n hm
  have el' := getI el
  have e11' := getI e11
  obtain ⟨rb, rv, er, gr⟩ := mx.r u hu
  have er' := getI er
  have gb := mx.g
  have tm : ((m : Int) + 1 - 1).toNat = m := by omega
  intro d
  induction d with
  | zero =>
    intro y hy
    obtain rfl : y = w := by omega
    have ea := row_at hm hu hw
    have ea' := getI ea
    have eb := bls_getN (cw M j t) hw w2
    have eb' := getI eb
    generalize ent M u y = a at *
    generalize gs (M.getD u []) = cr at *
    generalize bls (cw M j t) M.length = cb at *
    have a0 : ¬ a = 0 := by omega
    refine Tr.out ?_ (by simp)
    clear mx
    generalize M.length = n at *
    refine Tr.w fun s1 H1 hp R kR => W.trim ?_
    obtain ⟨rfl, q⟩ := hp
    refine W.assoc ?_
    refine W.seq (W.chunk ?_)
    simp (disch := first | omega | exact getEq rfl | exact getO0 | exact Nat.le_of_ble_eq_true rfl) [c36_o22, app_growP, app_noneP, plus_N, plus_at0, put_plus0, put_plus1, upd_N, upd_size, q, gb, gr, gq, gc, g2, el, el', e11, e11', er, er', ea, ea', eb, eb', a0, tm]
    refine W.seq (W.chunk ?_)
    simp (disch := first | omega | exact getEq rfl | exact getO0 | exact Nat.le_of_ble_eq_true rfl) [app_growP, app_noneP, plus_N, plus_at0, put_plus0, put_plus1, upd_N, upd_size, q, gb, gr, gq, gc, g2, el, el', e11, e11', er, er', ea, ea', eb, eb', a0, tm]
    exact kR _ _ (by simp [T.get, q])
  | succ d ih =>
    intro y hy
    refine Tr.next ?_ (ih (y + 1) (by omega))
    have hyn : y < M.length := by omega
    have ea := row_at hm hu hyn
    have ea' := getI ea
    have eb := bls_getN (cw M j t) hyn rfl
    have eb' := getI eb
    have w4 := w3 y (by omega)
    have a1 := (ent_bd hm u y).1
    generalize cw M j t y = bb at *
    generalize ent M u y = a at *
    generalize gs (M.getD u []) = cr at *
    generalize bls (cw M j t) M.length = cb at *
    clear mx ih w3
    generalize M.length = n at *
    by_cases ca : 0 < a
    · have hb : bb = false := by cases bb <;> simp_all
      subst hb
      have a0 : ¬ a = 0 := by omega
      refine Tr.w fun s1 H1 hp R kR => W.trim ?_
      obtain ⟨rfl, q⟩ := hp
      refine W.assoc ?_
      refine W.seq (W.chunk ?_)
      simp (disch := first | omega | exact getEq rfl | exact getO0 | exact Nat.le_of_ble_eq_true rfl) [c36_o22, app_growP, app_noneP, plus_N, plus_at0, put_plus0, put_plus1, upd_N, upd_size, q, gb, gr, gq, gc, g2, el, el', e11, e11', er, er', ea, ea', eb, eb', a0, tm]
      refine W.seq (W.chunk ?_)
      simp (disch := first | omega | exact getEq rfl | exact getO0 | exact Nat.le_of_ble_eq_true rfl) [app_growP, app_noneP, plus_N, plus_at0, put_plus0, put_plus1, upd_N, upd_size, q, gb, gr, gq, gc, g2, el, el', e11, e11', er, er', ea, ea', eb, eb', a0, tm]
      refine W.block ?_
      refine W.chunk ?_
      simp (disch := first | omega | exact getEq rfl | exact getO0 | exact Nat.le_of_ble_eq_true rfl) [c36_o23, app_growP, app_noneP, plus_N, plus_at0, put_plus0, put_plus1, upd_N, upd_size, q, gb, gr, gq, gc, g2, el, el', e11, e11', er, er', ea, ea', eb, eb', a0, tm]
      exact kR _ _ (by simp [T.get, q])
    · have a0 : a = 0 := by omega
      subst a0
      refine Tr.w fun s1 H1 hp R kR => W.trim ?_
      obtain ⟨rfl, q⟩ := hp
      refine W.assoc ?_
      refine W.seq (W.chunk ?_)
      simp (disch := first | omega | exact getEq rfl | exact getO0 | exact Nat.le_of_ble_eq_true rfl) [c36_o22, app_growP, app_noneP, plus_N, plus_at0, put_plus0, put_plus1, upd_N, upd_size, q, gb, gr, gq, gc, g2, el, el', e11, e11', er, er', ea, ea', eb, eb', tm]
      refine W.seq (W.chunk ?_)
      simp (disch := first | omega | exact getEq rfl | exact getO0 | exact Nat.le_of_ble_eq_true rfl) [app_growP, app_noneP, plus_N, plus_at0, put_plus0, put_plus1, upd_N, upd_size, q, gb, gr, gq, gc, g2, el, el', e11, e11', er, er', ea, ea', eb, eb', tm]
      refine W.block ?_
      refine W.chunk ?_
      simp (disch := first | omega | exact getEq rfl | exact getO0 | exact Nat.le_of_ble_eq_true rfl) [c36_o23, app_growP, app_noneP, plus_N, plus_at0, put_plus0, put_plus1, upd_N, upd_size, q, gb, gr, gq, gc, g2, el, el', e11, e11', er, er', ea, ea', eb, eb', tm]
      exact kR _ _ (by simp [T.get, q])
theorem c36_l4_ok (J : CallF) (hm : isMat M = true) {H0 : Heap} {b v j k q1 : Nat} {cs rs : List AV} (mx : MX H0 M b v cs) (gc : H0.get q1 = .cells 1 (k + 1) rs) (hr : ∀ t, t ≤ k → ∃ b2, rs[t]? = some (.slice b2 0 M.length M.length) ∧ H0.get b2 = .cells 1 M.length (bls (cw M j t) M.length)) (hk : k ≤ 100) :
    ∀ (t : Nat) (L : List Int) (u : Nat) (x : AV) (H : Heap), t ≤ k → L.length + t = k → u < M.length → cw M j t u = true → NG H0 H x (L ++ [(u : Int)]) → Tr tbl J c36_l4 (fun s h => h = H ∧ s.get [] = .slice b 0 M.length v ∧ s.get [false, false, true] = .slice q1 0 (k + 1) (k + 1) ∧ s.get [true, false, false, false] = x ∧ s.get [false, true, false, false] = G t) (.exit 6) (fun s h => ∃ x', NG H0 h x' (L ++ [(u : Int)] ++ wlk M j t u) ∧ s.get [true, false, false, false] = x') := by
  have h8 := isMat_n hm
  intro t
  induction t with
  | zero =>
    intro L u x H ht hl hu hc ng
    refine Tr.out ?_ (by simp)
    clear mx
    generalize hn : M.length = n at *
    refine Tr.w fun s1 H1 hp R kR => W.trim ?_
    obtain ⟨rfl, q⟩ := hp
    refine W.assoc ?_
    refine W.seq (W.chunk ?_)
    simp (disch := first | omega | exact getEq rfl | exact getO0 | exact Nat.le_of_ble_eq_true rfl) [c36_o20, app_growP, app_noneP, plus_N, plus_at0, put_plus0, put_plus1, upd_N, upd_size, q]
    refine W.seq (W.chunk ?_)
    simp (disch := first | omega | exact getEq rfl | exact getO0 | exact Nat.le_of_ble_eq_true rfl) [app_growP, app_noneP, plus_N, plus_at0, put_plus0, put_plus1, upd_N, upd_size, q]
    exact kR _ _ ⟨x, by simpa [wlk] using ng, by simp [T.get, q]⟩
  | succ t ih =>
    intro L u x H ht hl hu hc ng
    obtain ⟨a1, a2, a3, a4⟩ := nxW_ok hc
    have hw : wlk M j (t + 1) u = (nxW M j t u : Int) :: wlk M j t (nxW M j t u) := rfl
    obtain ⟨q0, rfl, gq⟩ := ng.l.sl (by simp)
    have hlen : (gs (L ++ [(u : Int)])).length = L.length + 1 := by simp
    rw [hlen] at ng gq
    obtain ⟨x1, e, h2, q1', q2, ng2, _⟩ := ng.app H.size (nxW M j t u : Int) (by simp; omega)
    have ih' := ih (L ++ [(u : Int)]) (nxW M j t u) x1 h2 (by omega) (by simp; omega) a1 a3 ng2
    rw [hw]
    obtain ⟨b2, e11, g2⟩ := hr t (by omega)
    have l3 := c36_l3_ok (t := t) J hm (mx.kp ng.k) gq (gs_last rfl) (by omega) (ng.k.at gc (by simp) id) e11 (ng.k.at g2 (by simp) id) (by omega) (by omega) hu a1 a2 a3 a4 (nxW M j t u) 0 (by omega)
    have f1 := app1_at H (G (nxW M j t u))
    refine Tr.next (R := (fun s h => h = h2 ∧ s.get [] = .slice b 0 M.length v ∧ s.get [false, false, true] = .slice q1 0 (k + 1) (k + 1) ∧ s.get [true, false, false, false] = x1 ∧ s.get [false, true, false, false] = G t)) ?_ (Tr.post (fun s h q => by simpa using q) ih')
    clear mx ih ih' hr
    generalize nxW M j t u = w at *
    generalize M.length = n at *
    refine Tr.w fun s1 H1 hp R kR => W.trim ?_
    obtain ⟨rfl, q⟩ := hp
    refine W.assoc ?_
    refine W.seq (W.chunk ?_)
    simp (disch := first | omega | exact getEq rfl | exact getO0 | exact Nat.le_of_ble_eq_true rfl) [c36_o20, app_growP, app_noneP, plus_N, plus_at0, put_plus0, put_plus1, upd_N, upd_size, q]
    refine W.seq (W.chunk ?_)
    simp (disch := first | omega | exact getEq rfl | exact getO0 | exact Nat.le_of_ble_eq_true rfl) [app_growP, app_noneP, plus_N, plus_at0, put_plus0, put_plus1, upd_N, upd_size, q]
    refine W.seq (W.block ?_)
    refine W.seq (W.chunk ?_)
    simp (disch := first | omega | exact getEq rfl | exact getO0 | exact Nat.le_of_ble_eq_true rfl) [c36_o21, app_growP, app_noneP, plus_N, plus_at0, put_plus0, put_plus1, upd_N, upd_size, q]
    refine W.seq (W.block ?_)
    refine W.use (l3) (by simp (disch := first | omega | exact getEq rfl | exact getO0 | exact Nat.le_of_ble_eq_true rfl) [app_growP, app_noneP, plus_N, plus_at0, put_plus0, put_plus1, upd_N, upd_size, q]) fun s1 H1 hp => ?_
    obtain ⟨rfl, q⟩ := hp
    try simp only [thenW_n, thenW_e, thenW_r, blkW_n, blkW_e, blkW_r, if_true]
    refine W.chunk ?_
    simp (disch := first | omega | exact getEq rfl | exact getO0 | exact Nat.le_of_ble_eq_true rfl) [c36_o24, app_growP, app_noneP, plus_N, plus_at0, put_plus0, put_plus1, upd_N, upd_size, q, elems, rdOf, f1, q1', q2]
    refine W.chunk ?_
    simp (disch := first | omega | exact getEq rfl | exact getO0 | exact Nat.le_of_ble_eq_true rfl) [c36_o25, app_growP, app_noneP, plus_N, plus_at0, put_plus0, put_plus1, upd_N, upd_size, q]
    exact kR _ _ (by simp [T.get, q])
theorem c36_ok (J : CallF) (hJ : ∀ a h, J 36 a h = none) (h : Heap) {y : AV} (hy : MR h y M) (hm : isMat M = true) {i j k : Nat} (hi : i < M.length) (hj : j < M.length) (hk : k ≤ 100) : ∃ v own, CallsTo tbl J 36 [y, G i, G j, G k] h (v, own, false) ∧ (cw M j k i = false → v = .tup [.nils, .bool false] ∧ own = []) ∧ (cw M j k i = true → ∃ w, v = .tup [w, .bool true] ∧ NG h (h.plus own) w ((i : Int) :: wlk M j k i)) := by
  refine Tr.fny (cf := c36) (e := .ret) (s := T.set (T.set (T.set (T.set .leaf [] y) [false] (G i)) [true] (G j)) [false, false] (G k)) (by decide) rfl (hJ _ _) rfl rfl (by simp) ?_
  have h8 := isMat_n hm
  obtain ⟨b, v, cs, rfl, mx⟩ := (hy.lo []).mx hm
  have mx : MX (frameOf h) M b v cs := mx
  have lo := c36_s (i := i) (j := j) J hm mx hk
  have key : MX (frameOf h) M b v cs := mx
  refine Tr.w fun s1 H1 hp R kR => ?_
  obtain ⟨rfl, rfl⟩ := hp
  have q : True := trivial
  have hl := cRows_len (M := M) j (k + 1)
  have eb := bls_getN (cw M j k) hi rfl
  have eb' := getI eb
  by_cases c : cw M j k i = true
  · rw [c] at eb eb'
    refine W.seq (W.chunk ?_)
    simp (disch := first | omega | exact getEq rfl | exact getO0 | exact Nat.le_of_ble_eq_true rfl) [c36_o0, app_growP, app_noneP, plus_N, plus_at0, put_plus0, put_plus1, upd_N, upd_size, q]
    refine W.seq (W.chunk ?_)
    simp (disch := first | omega | exact getEq rfl | exact getO0 | exact Nat.le_of_ble_eq_true rfl) [c36_o1, app_growP, app_noneP, plus_N, plus_at0, put_plus0, put_plus1, upd_N, upd_size, q]
    refine W.seq (W.chunk ?_)
    simp (disch := first | omega | exact getEq rfl | exact getO0 | exact Nat.le_of_ble_eq_true rfl) [c36_o2, app_growP, app_noneP, plus_N, plus_at0, put_plus0, put_plus1, upd_N, upd_size, q]
    refine W.assoc ?_
    refine W.seq (W.chunk ?_)
    simp (disch := first | omega | exact getEq rfl | exact getO0 | exact Nat.le_of_ble_eq_true rfl) [c36_o3, app_growP, app_noneP, plus_N, plus_at0, put_plus0, put_plus1, upd_N, upd_size, q]
    refine W.seq (W.block ?_)
    refine W.use (lo) (by simp (disch := first | omega | exact getEq rfl | exact getO0 | exact Nat.le_of_ble_eq_true rfl) [app_growP, app_noneP, plus_N, plus_at0, put_plus0, put_plus1, upd_N, upd_size, q]) fun s1 H1 hp => ?_
    obtain ⟨xc, tb, q⟩ := hp
    try simp only [thenW_n, thenW_e, thenW_r, blkW_n, blkW_e, blkW_r, if_true]
    obtain ⟨q1, rs, rfl, gc, lq, hr⟩ := tb.sl (i := 0) (by omega)
    rw [hl] at gc q
    have hr' : ∀ t, t ≤ k → ∃ b2, rs[t]? = some (.slice b2 0 M.length M.length) ∧ H1.get b2 = .cells 1 M.length (bls (cw M j t) M.length) := fun t ht => by
      obtain ⟨b2, e1, e2⟩ := hr t _ (cRows_at j (by omega))
      rw [bls_len] at e1 e2
      exact ⟨b2, e1, e2⟩
    obtain ⟨b2, e11, g2⟩ := hr' k (by omega)
    have e11' := getI e11
    refine W.assoc ?_
    refine W.seq (W.chunk ?_)
    simp (disch := first | omega | exact getEq rfl | exact getO0 | exact Nat.le_of_ble_eq_true rfl) [c36_o16, app_growP, app_noneP, plus_N, plus_at0, put_plus0, put_plus1, upd_N, upd_size, q, gc, e11, e11', g2, eb, eb']
    refine W.seq (W.chunk ?_)
    simp (disch := first | omega | exact getEq rfl | exact getO0 | exact Nat.le_of_ble_eq_true rfl) [c36_o17, app_growP, app_noneP, plus_N, plus_at0, put_plus0, put_plus1, upd_N, upd_size, q]
    have ng0 : NG H1 (H1.plus [.cells 1 1 [G i]]) (.slice H1.size 0 1 1) ([] ++ [(i : Int)]) := ⟨Kp.plus _ _, fun q hq => by cases hq; exact Nat.le_refl _, .inr ⟨H1.size, by simp, plus_at0 _ _ _ _ rfl, by show H1.N ≤ H1.size; unfold Heap.size; omega⟩⟩
    have l4 := c36_l4_ok J hm (mx.kp tb.k) gc hr' hk k [] i _ _ (Nat.le_refl _) (by simp) hi c ng0
    refine W.seq (W.chunk ?_)
    simp (disch := first | omega | exact getEq rfl | exact getO0 | exact Nat.le_of_ble_eq_true rfl) [c36_o18, app_growP, app_noneP, plus_N, plus_at0, put_plus0, put_plus1, upd_N, upd_size, q]
    refine W.assoc ?_
    refine W.seq (W.chunk ?_)
    simp (disch := first | omega | exact getEq rfl | exact getO0 | exact Nat.le_of_ble_eq_true rfl) [c36_o19, app_growP, app_noneP, plus_N, plus_at0, put_plus0, put_plus1, upd_N, upd_size, q]
    refine W.seq (W.block ?_)
    refine W.use (l4) (by simp (disch := first | omega | exact getEq rfl | exact getO0 | exact Nat.le_of_ble_eq_true rfl) [app_growP, app_noneP, plus_N, plus_at0, put_plus0, put_plus1, upd_N, upd_size, q]) fun s1 H1 hp => ?_
    obtain ⟨x, ng, q⟩ := hp
    try simp only [thenW_n, thenW_e, thenW_r, blkW_n, blkW_e, blkW_r, if_true]
    refine W.seq (W.chunk ?_)
    simp (disch := first | omega | exact getEq rfl | exact getO0 | exact Nat.le_of_ble_eq_true rfl) [c36_o26, app_growP, app_noneP, plus_N, plus_at0, put_plus0, put_plus1, upd_N, upd_size, q]
    refine W.ret ?_
    try simp only [thenW_n, thenW_e, thenW_r, blkW_n, blkW_e, blkW_r, if_true]
    have ng' : NG (frameOf h) H1 x ((i : Int) :: wlk M j k i) := ⟨tb.k.trans ng.k, fun q hq => by have := ng.x0 q hq; have := tb.k.size; omega, ng.l⟩
    exact kR _ _ ⟨[x, .bool true], by simp [T.get, c36, evRess, evRes, q], ⟨fun e => absurd (c.symm.trans e) (by simp), fun _ => ⟨x, rfl, ng'.fr1⟩⟩⟩
  · have c' : cw M j k i = false := by simpa using c
    rw [c'] at eb eb'
    refine W.seq (W.chunk ?_)
    simp (disch := first | omega | exact getEq rfl | exact getO0 | exact Nat.le_of_ble_eq_true rfl) [c36_o0, app_growP, app_noneP, plus_N, plus_at0, put_plus0, put_plus1, upd_N, upd_size, q]
    refine W.seq (W.chunk ?_)
    simp (disch := first | omega | exact getEq rfl | exact getO0 | exact Nat.le_of_ble_eq_true rfl) [c36_o1, app_growP, app_noneP, plus_N, plus_at0, put_plus0, put_plus1, upd_N, upd_size, q]
    refine W.seq (W.chunk ?_)
    simp (disch := first | omega | exact getEq rfl | exact getO0 | exact Nat.le_of_ble_eq_true rfl) [c36_o2, app_growP, app_noneP, plus_N, plus_at0, put_plus0, put_plus1, upd_N, upd_size, q]
    refine W.assoc ?_
    refine W.seq (W.chunk ?_)
    simp (disch := first | omega | exact getEq rfl | exact getO0 | exact Nat.le_of_ble_eq_true rfl) [c36_o3, app_growP, app_noneP, plus_N, plus_at0, put_plus0, put_plus1, upd_N, upd_size, q]
    refine W.seq (W.block ?_)
    refine W.use (lo) (by simp (disch := first | omega | exact getEq rfl | exact getO0 | exact Nat.le_of_ble_eq_true rfl) [app_growP, app_noneP, plus_N, plus_at0, put_plus0, put_plus1, upd_N, upd_size, q]) fun s1 H1 hp => ?_
    obtain ⟨xc, tb, q⟩ := hp
    try simp only [thenW_n, thenW_e, thenW_r, blkW_n, blkW_e, blkW_r, if_true]
    obtain ⟨q1, rs, rfl, gc, lq, hr⟩ := tb.sl (i := 0) (by omega)
    rw [hl] at gc q
    obtain ⟨b2, e11, g2⟩ := hr k _ (cRows_at j (by omega))
    rw [bls_len] at e11 g2
    have e11' := getI e11
    refine W.assoc ?_
    refine W.seq (W.chunk ?_)
    simp (disch := first | omega | exact getEq rfl | exact getO0 | exact Nat.le_of_ble_eq_true rfl) [c36_o16, app_growP, app_noneP, plus_N, plus_at0, put_plus0, put_plus1, upd_N, upd_size, q, gc, e11, e11', g2, eb, eb']
    refine W.seq (W.chunk ?_)
    simp (disch := first | omega | exact getEq rfl | exact getO0 | exact Nat.le_of_ble_eq_true rfl) [c36_o17, app_growP, app_noneP, plus_N, plus_at0, put_plus0, put_plus1, upd_N, upd_size, q]
    exact kR _ _ ⟨[.nils, .bool false], by simp [T.get, c36, evRess, evRes], ⟨fun _ => (by simp [one, AV.flat, AV.flats]), fun e => absurd (c'.symm.trans e) (by simp)⟩⟩
end

/-! ### What is known -/
/-- The walk's list. -/
def wkL (M : List (List Int)) (i j k : Nat) : List Int := (i : Int) :: wlk M j k i
structure A36 where
  M : List (List Int)
  y : AV
  i : Nat
  j : Nat
  k : Nat
def Ok36 (a : A36) (h : Heap) : Prop := MR h a.y a.M ∧ isMat a.M = true ∧ a.i < a.M.length ∧ a.j < a.M.length ∧ a.k ≤ 100
def Pre36 (a : A36) (args : List AV) (h : Heap) : Prop := Ok36 a h ∧ args = [a.y, G a.i, G a.j, G a.k]
def Post36 (a : A36) (h : Heap) (v : AV) (own : List AObj) : Prop := (cw a.M a.j a.k a.i = false → v = .tup [.nils, .bool false] ∧ own = []) ∧ (cw a.M a.j a.k a.i = true → ∃ w, v = .tup [w, .bool true] ∧ NG h (h.plus own) w (wkL a.M a.i a.j a.k))
noncomputable def T8 : CallF := addK tbl T7 36 Pre36 Post36
theorem t8 : Sound Go.Proofs.Try.prog T8 := Sound.addK follows ok t7 (by decide) _ _
abbrev K36 (J : CallF) : Prop := ∀ (h : Heap) (a : A36), Ok36 a h → ∃ v own, J 36 [a.y, G a.i, G a.j, G a.k] h = some (v, own, false) ∧ Post36 a h v own
theorem k36 : K36 T8 := fun h a ha => addK_some (Pre := Pre36) (Post := Post36) (fun a args h hp => by
  obtain ⟨⟨hy, hm, hi, hj, hk⟩, rfl⟩ := hp
  exact c36_ok T7 (fun _ _ => by simp (disch := decide) only [T7, T6, T5, T4, T3, T2, T1, R21, R20, R19, R18, R17, R16, R15, R14, R13, R12, R11, R10, R9, R8, R7, R6, R5, R4, R3, R2, R1, addI_ne, addX_ne, addV_ne, addK_ne]; rfl) h hy hm hi hj hk) a _ h ⟨ha, rfl⟩

/-! ### roller.Walk -/
theorem NG.up {h : Heap} {X own : List AObj} {w : AV} {L : List Int} (t : NG ⟨h.get, h.size, X⟩ (Heap.plus ⟨h.get, h.size, X⟩ own) w L) : NG (frameOf h) (Heap.plus ⟨h.get, h.size, X⟩ own) w L :=
  ⟨(Kp.plus (frameOf h) X).trans t.k, fun q hq => Nat.le_trans (Kp.plus (M := fun _ => False) (frameOf h) X).size (t.x0 q hq), t.l⟩
section
variable {M : List (List Int)} {y : AV}
def wOk (M : List (List Int)) (i j k : Int) : Prop := isMat M = true ∧ (0 ≤ i ∧ i ≤ (M.length : Int) - 1) ∧ (0 ≤ j ∧ j ≤ (M.length : Int) - 1) ∧ (0 ≤ k ∧ k ≤ 100)
end

/-! ### What is known -/
structure A35 where
  M : List (List Int)
  y : AV
  i : Int
  j : Int
  k : Int
def Pre35 (a : A35) (args : List AV) (h : Heap) : Prop := MR h a.y a.M ∧ args = [a.y, G a.i, G a.j, G a.k]
def Post35 (a : A35) (h : Heap) (v : AV) (own : List AObj) : Prop := (¬ wOk a.M a.i a.j a.k → v = .tup [.nils, G 2] ∧ own = []) ∧ (wOk a.M a.i a.j a.k → cw a.M a.j.toNat a.k.toNat a.i.toNat = false → v = .tup [.nils, G 6] ∧ own = []) ∧ (wOk a.M a.i a.j a.k → cw a.M a.j.toNat a.k.toNat a.i.toNat = true → ∃ w, v = .tup [w, G 0] ∧ NG h (h.plus own) w (wkL a.M a.i.toNat a.j.toNat a.k.toNat))
noncomputable def T9 : CallF := addK tbl T8 35 Pre35 Post35
theorem t9 : Sound Go.Proofs.Try.prog T9 := Sound.addK follows ok t8 (by decide) _ _
end Go.Proofs.Ytjeemgaoonapgaa.Ev
