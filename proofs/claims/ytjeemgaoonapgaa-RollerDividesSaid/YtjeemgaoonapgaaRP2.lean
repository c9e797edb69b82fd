/-
  Of the functions that this law reaches, part 2: what they answer. No condition.
-/
import Derived.Test.YtjeemgaoonapgaaRP1
import Derived.Test.YtjeemgaoonapgaaRP0
set_option linter.unusedVariables false
set_option linter.unusedSimpArgs false
namespace Go.Proofs.Ytjeemgaoonapgaa.Ev
open Go Go.AEv
attribute [local simp] evFunc initS evOps_c evTrim_c evSkip_c evExit_c evRet_c evSeq_c evCond_c evBlock_c evDraw_c runOps_n runOps_c exec_n exec_g pure1_c act AOpd.ev T.get T.set T.put evBin evUn forceT_eq forceV_eq forceL_eq evRess evRes one keep runFP_n runFP_c app_none AV.flats AV.flat came_some List.getElem?_cons_zero List.getElem?_cons_succ beqT wrapI idxI tdivI tmodI decT decF ibT ibF inT inF evScope_c if_pos if_neg Cm_some thenW_n thenW_e thenW_r blkW_n blkW_e blkW_r goI kn putAt AV.cells fillA loadA takeA mk Eff.isAll Eff.isNone Eff.commutes Eff.spares okPair apart eqAgg fits LK.fits allEq aveq eqk mmA
section
variable {M : List (List Int)}
theorem noCyc_wk (hm : isMat M = true) {i : Nat} (hi : i < M.length) (h : noCyc M i) : ∀ k, Wk M k i i → k = 0
  | 0, _ => rfl
  | k + 1, w => by
    obtain ⟨v, e, w'⟩ := w
    obtain ⟨d, hd, wd⟩ := Rc.short hm (ent_lt hm e).2 ⟨k, w'⟩
    have := (cw_iff hm).2 (show Wk M (d + 1) i i from ⟨v, e, wd⟩)
    rw [h (d + 1) (by omega) (by omega)] at this
    cases this
theorem noCyc_per (hm : isMat M = true) {i : Nat} (hi : i < M.length) (h : noCyc M i) : perN M i = 0 := by
  have p := perN_ok hm hi
  have := p.2 0 fun k w => by rw [noCyc_wk hm hi h k w]; exact Nat.dvd_refl 0
  exact Nat.eq_zero_of_zero_dvd this
theorem cyc_per (hm : isMat M = true) {i c : Nat} (hi : i < M.length) (h : cyc M i c) : perN M i ≠ 0 ∧ perN M i ∣ c := by
  have p := (perN_ok hm hi).1 c ((cw_iff hm).1 h.2.2.1)
  refine ⟨fun e => ?_, p⟩
  rw [e] at p
  have := Nat.eq_zero_of_zero_dvd p
  have := h.1
  omega
theorem cyc_ple (hm : isMat M = true) {i c : Nat} (hi : i < M.length) (h : cyc M i c) : perN M i ≤ M.length := Nat.le_trans (Nat.le_of_dvd (by have := h.1; omega) (cyc_per hm hi h).2) h.2.1
theorem lyV_bd {i a : Nat} (p : perN M i ≠ 0) : -1 ≤ lyV M i a ∧ lyV M i a < perN M i := by
  unfold lyV
  split
  · have := Int.emod_nonneg (dsN M i a) (b := (perN M i : Int)) (by omega)
    have := Int.emod_lt_of_pos (dsN M i a) (b := (perN M i : Int)) (by omega)
    omega
  · omega
theorem lyV_i {i : Nat} : lyV M i i = 0 := by
  unfold lyV
  rw [if_pos rfl, ds_0]
  exact Int.zero_emod _
theorem lyV_mu (hm : isMat M = true) {i a : Nat} (hi : i < M.length) (ha : a < M.length) (h : 0 ≤ lyV M i a) : Mu M i a ∧ lyV M i a = dsN M i a % (perN M i : Int) := by
  unfold lyV at h ⊢
  by_cases c : clN M a = clN M i
  · rw [if_pos c]; exact ⟨((clN_eq hm ha hi).1 c).symm, rfl⟩
  · rw [if_neg c] at h; omega
theorem wlk_len (j : Nat) : ∀ t u, (wlk M j t u).length = t
  | 0, _ => rfl
  | t + 1, u => by show (wlk M j t _).length + 1 = t + 1; rw [wlk_len j t]
theorem ly_step (hm : isMat M = true) {i a b : Nat} (hi : i < M.length) (ha : a < M.length) (hb : b < M.length) (h1 : 0 ≤ lyV M i a) (h2 : 0 ≤ lyV M i b) (e : 0 < ent M a b) : (lyV M i a + 1) % (perN M i : Int) = lyV M i b := by
  obtain ⟨ma, ea⟩ := lyV_mu hm hi ha h1
  obtain ⟨mb, eb⟩ := lyV_mu hm hi hb h2
  obtain ⟨da, fa, wa, _⟩ := ds_mu hm hi ma
  obtain ⟨db, fb, wb, _⟩ := ds_mu hm hi mb
  have pm := per_mod (perN_ok hm hi) mb (wa.add (Wk.one e)) wb
  rw [ea, eb, fa, fb, Int.emod_add_emod]
  exact_mod_cast pm
theorem d9_b (J : CallF) (hm : isMat M = true) {H : Heap} {b v ql qp i a : Nat} {cs : List AV} (mx : MX H M b v cs) (gl : H.get ql = .cells 1 M.length (gs (lyL M i))) (gp : H.get qp = .cells 1 M.length (gs (pdL M))) (hi : i < M.length) (ha : a < M.length) (p0 : perN M i ≠ 0) (p1 : perN M i ≤ M.length) :
    Tr tbl J c9_l0 (fun s h => h = H ∧ s.get [] = G M.length ∧ s.get [false, false, false] = .slice b 0 M.length v ∧ s.get [true, false, false] = G i ∧ s.get [false, true, false] = .slice qp 0 M.length M.length ∧ s.get [false, true, true] = .slice ql 0 M.length M.length ∧ s.get [false, false, false, false] = G a ∧ s.get [true, false, false, false] = G ((0 : Nat) : Int)) (.exit 2) (fun s h => h = H ∧ s.get [] = G M.length ∧ s.get [false, false, false] = .slice b 0 M.length v ∧ s.get [true, false, false] = G i ∧ s.get [false, true, false] = .slice qp 0 M.length M.length ∧ s.get [false, true, true] = .slice ql 0 M.length M.length ∧ s.get [false, false, false, false] = G a) := by
  have h8 := isMat_n hm
  refine Tr.rounds (P := fun z => (fun s h => h = H ∧ s.get [] = G M.length ∧ s.get [false, false, false] = .slice b 0 M.length v ∧ s.get [true, false, false] = G i ∧ s.get [false, true, false] = .slice qp 0 M.length M.length ∧ s.get [false, true, true] = .slice ql 0 M.length M.length ∧ s.get [false, false, false, false] = G a ∧ s.get [true, false, false, false] = G z)) (M := M.length) (fun z hz => ?_) ?_ (by simp) 0 (by omega)
  · refine Tr.w fun s1 H1 hp R kR => W.trim ?_
    obtain ⟨rfl, q⟩ := hp
    obtain ⟨rb, rv, er, gr⟩ := mx.r a ha
    have gb := mx.g
    have ee := row_at hm ha hz
    have ea : (gs (lyL M i))[a]? = some (G (lyV M i a)) := gl_at _ ha
    have ez : (gs (lyL M i))[z]? = some (G (lyV M i z)) := gl_at _ hz
    have ei : (gs (pdL M))[i]? = some (G (perN M i)) := gl_at _ hi
    have er' := getI er
    have ee' := getI ee
    have ea' := getI ea
    have ez' := getI ez
    have ei' := getI ei
    have ba := lyV_bd (M := M) (i := i) (a := a) p0
    have bz := lyV_bd (M := M) (i := i) (a := z) p0
    have st := ly_step hm hi ha hz
    have e0 := ent_bd hm a z
    clear mx
    generalize lyV M i a = u at *
    generalize lyV M i z = w at *
    generalize ent M a z = e at *
    generalize perN M i = p at *
    generalize gs (lyL M i) = cl at *
    generalize gs (pdL M) = cp at *
    generalize gs (M.getD a []) = cr at *
    generalize M.length = n at *
    by_cases h1 : 0 ≤ u
    · by_cases h2 : 0 ≤ w
      · by_cases h3 : 0 < e
        · have st := st h1 h2 h3
          refine W.assoc ?_
          refine W.seq (W.chunk ?_)
          simp (disch := first | omega | exact getEq rfl | exact getO0 | exact Nat.le_of_ble_eq_true rfl) [c9_o16, app_growP, app_noneP, plus_N, plus_at0, put_plus0, put_plus1, upd_N, upd_size, q]
          refine W.seq (W.chunk ?_)
          simp (disch := first | omega | exact getEq rfl | exact getO0 | exact Nat.le_of_ble_eq_true rfl) [app_growP, app_noneP, plus_N, plus_at0, put_plus0, put_plus1, upd_N, upd_size, q]
          refine W.seq (W.block ?_)
          refine W.seq (W.chunk ?_)
          simp (disch := first | omega | exact getEq rfl | exact getO0 | exact Nat.le_of_ble_eq_true rfl) [c9_o17, app_growP, app_noneP, plus_N, plus_at0, put_plus0, put_plus1, upd_N, upd_size, q, gb, gr, gl, gp, er, er', ee, ee', ea, ea', ez, ez', ei, ei', st, -evDraw_c, evDraw_0]
          refine W.chunk ?_
          simp (disch := first | omega | exact getEq rfl | exact getO0 | exact Nat.le_of_ble_eq_true rfl) [c9_o18, app_growP, app_noneP, plus_N, plus_at0, put_plus0, put_plus1, upd_N, upd_size, q]
          refine W.chunk ?_
          simp (disch := first | omega | exact getEq rfl | exact getO0 | exact Nat.le_of_ble_eq_true rfl) [c9_o19, app_growP, app_noneP, plus_N, plus_at0, put_plus0, put_plus1, upd_N, upd_size, q]
          exact kR _ _ (by simp [T.get, q])
        · refine W.assoc ?_
          refine W.seq (W.chunk ?_)
          simp (disch := first | omega | exact getEq rfl | exact getO0 | exact Nat.le_of_ble_eq_true rfl) [c9_o16, app_growP, app_noneP, plus_N, plus_at0, put_plus0, put_plus1, upd_N, upd_size, q]
          refine W.seq (W.chunk ?_)
          simp (disch := first | omega | exact getEq rfl | exact getO0 | exact Nat.le_of_ble_eq_true rfl) [app_growP, app_noneP, plus_N, plus_at0, put_plus0, put_plus1, upd_N, upd_size, q]
          refine W.seq (W.block ?_)
          refine W.seq (W.chunk ?_)
          simp (disch := first | omega | exact getEq rfl | exact getO0 | exact Nat.le_of_ble_eq_true rfl) [c9_o17, app_growP, app_noneP, plus_N, plus_at0, put_plus0, put_plus1, upd_N, upd_size, q, gb, gr, gl, gp, er, er', ee, ee', ea, ea', ez, ez', ei, ei', -evDraw_c, evDraw_0]
          refine W.chunk ?_
          simp (disch := first | omega | exact getEq rfl | exact getO0 | exact Nat.le_of_ble_eq_true rfl) [c9_o18, app_growP, app_noneP, plus_N, plus_at0, put_plus0, put_plus1, upd_N, upd_size, q]
          refine W.chunk ?_
          simp (disch := first | omega | exact getEq rfl | exact getO0 | exact Nat.le_of_ble_eq_true rfl) [c9_o19, app_growP, app_noneP, plus_N, plus_at0, put_plus0, put_plus1, upd_N, upd_size, q]
          exact kR _ _ (by simp [T.get, q])
      · refine W.assoc ?_
        refine W.seq (W.chunk ?_)
        simp (disch := first | omega | exact getEq rfl | exact getO0 | exact Nat.le_of_ble_eq_true rfl) [c9_o16, app_growP, app_noneP, plus_N, plus_at0, put_plus0, put_plus1, upd_N, upd_size, q]
        refine W.seq (W.chunk ?_)
        simp (disch := first | omega | exact getEq rfl | exact getO0 | exact Nat.le_of_ble_eq_true rfl) [app_growP, app_noneP, plus_N, plus_at0, put_plus0, put_plus1, upd_N, upd_size, q]
        refine W.seq (W.block ?_)
        refine W.seq (W.chunk ?_)
        simp (disch := first | omega | exact getEq rfl | exact getO0 | exact Nat.le_of_ble_eq_true rfl) [c9_o17, app_growP, app_noneP, plus_N, plus_at0, put_plus0, put_plus1, upd_N, upd_size, q, gb, gr, gl, gp, er, er', ee, ee', ea, ea', ez, ez', ei, ei', -evDraw_c, evDraw_0]
        refine W.chunk ?_
        simp (disch := first | omega | exact getEq rfl | exact getO0 | exact Nat.le_of_ble_eq_true rfl) [c9_o18, app_growP, app_noneP, plus_N, plus_at0, put_plus0, put_plus1, upd_N, upd_size, q]
        refine W.chunk ?_
        simp (disch := first | omega | exact getEq rfl | exact getO0 | exact Nat.le_of_ble_eq_true rfl) [c9_o19, app_growP, app_noneP, plus_N, plus_at0, put_plus0, put_plus1, upd_N, upd_size, q]
        exact kR _ _ (by simp [T.get, q])
    · refine W.assoc ?_
      refine W.seq (W.chunk ?_)
      simp (disch := first | omega | exact getEq rfl | exact getO0 | exact Nat.le_of_ble_eq_true rfl) [c9_o16, app_growP, app_noneP, plus_N, plus_at0, put_plus0, put_plus1, upd_N, upd_size, q]
      refine W.seq (W.chunk ?_)
      simp (disch := first | omega | exact getEq rfl | exact getO0 | exact Nat.le_of_ble_eq_true rfl) [app_growP, app_noneP, plus_N, plus_at0, put_plus0, put_plus1, upd_N, upd_size, q]
      refine W.seq (W.block ?_)
      refine W.seq (W.chunk ?_)
      simp (disch := first | omega | exact getEq rfl | exact getO0 | exact Nat.le_of_ble_eq_true rfl) [c9_o17, app_growP, app_noneP, plus_N, plus_at0, put_plus0, put_plus1, upd_N, upd_size, q, gb, gr, gl, gp, er, er', ee, ee', ea, ea', ez, ez', ei, ei', -evDraw_c, evDraw_0]
      refine W.chunk ?_
      simp (disch := first | omega | exact getEq rfl | exact getO0 | exact Nat.le_of_ble_eq_true rfl) [c9_o18, app_growP, app_noneP, plus_N, plus_at0, put_plus0, put_plus1, upd_N, upd_size, q]
      refine W.chunk ?_
      simp (disch := first | omega | exact getEq rfl | exact getO0 | exact Nat.le_of_ble_eq_true rfl) [c9_o19, app_growP, app_noneP, plus_N, plus_at0, put_plus0, put_plus1, upd_N, upd_size, q]
      exact kR _ _ (by simp [T.get, q])
  · refine Tr.w fun s1 H1 hp R kR => W.trim ?_
    obtain ⟨rfl, q⟩ := hp
    clear mx
    generalize M.length = n at *
    refine W.assoc ?_
    refine W.seq (W.chunk ?_)
    simp (disch := first | omega | exact getEq rfl | exact getO0 | exact Nat.le_of_ble_eq_true rfl) [c9_o16, app_growP, app_noneP, plus_N, plus_at0, put_plus0, put_plus1, upd_N, upd_size, q]
    refine W.seq (W.chunk ?_)
    simp (disch := first | omega | exact getEq rfl | exact getO0 | exact Nat.le_of_ble_eq_true rfl) [app_growP, app_noneP, plus_N, plus_at0, put_plus0, put_plus1, upd_N, upd_size, q]
    exact kR _ _ (by simp [T.get, q])
theorem d9_a (J : CallF) (hm : isMat M = true) {H : Heap} {b v ql qp i : Nat} {cs : List AV} (mx : MX H M b v cs) (gl : H.get ql = .cells 1 M.length (gs (lyL M i))) (gp : H.get qp = .cells 1 M.length (gs (pdL M))) (hi : i < M.length) (p0 : perN M i ≠ 0) (p1 : perN M i ≤ M.length) :
    Tr tbl J c9_l1 (fun s h => h = H ∧ s.get [] = G M.length ∧ s.get [false, false, false] = .slice b 0 M.length v ∧ s.get [true, false, false] = G i ∧ s.get [false, true, false] = .slice qp 0 M.length M.length ∧ s.get [false, true, true] = .slice ql 0 M.length M.length ∧ s.get [false, false, false, false] = G ((0 : Nat) : Int)) (.exit 0) (fun s h => h = H) := by
  have h8 := isMat_n hm
  refine Tr.rounds (P := fun z => (fun s h => h = H ∧ s.get [] = G M.length ∧ s.get [false, false, false] = .slice b 0 M.length v ∧ s.get [true, false, false] = G i ∧ s.get [false, true, false] = .slice qp 0 M.length M.length ∧ s.get [false, true, true] = .slice ql 0 M.length M.length ∧ s.get [false, false, false, false] = G z)) (M := M.length) (fun z hz => ?_) ?_ (by simp) 0 (by omega)
  · refine Tr.w fun s1 H1 hp R kR => W.trim ?_
    obtain ⟨rfl, q⟩ := hp
    have l0 := d9_b J hm mx gl gp hi hz p0 p1
    clear mx gl gp
    generalize M.length = n at *
    refine W.assoc ?_
    refine W.seq (W.chunk ?_)
    simp (disch := first | omega | exact getEq rfl | exact getO0 | exact Nat.le_of_ble_eq_true rfl) [c9_o14, app_growP, app_noneP, plus_N, plus_at0, put_plus0, put_plus1, upd_N, upd_size, q]
    refine W.seq (W.chunk ?_)
    simp (disch := first | omega | exact getEq rfl | exact getO0 | exact Nat.le_of_ble_eq_true rfl) [app_growP, app_noneP, plus_N, plus_at0, put_plus0, put_plus1, upd_N, upd_size, q]
    refine W.seq (W.block ?_)
    refine W.seq (W.chunk ?_)
    simp (disch := first | omega | exact getEq rfl | exact getO0 | exact Nat.le_of_ble_eq_true rfl) [c9_o15, app_growP, app_noneP, plus_N, plus_at0, put_plus0, put_plus1, upd_N, upd_size, q]
    refine W.block ?_
    refine W.use (l0) (by simp (disch := first | omega | exact getEq rfl | exact getO0 | exact Nat.le_of_ble_eq_true rfl) [app_growP, app_noneP, plus_N, plus_at0, put_plus0, put_plus1, upd_N, upd_size, q]) fun s1 H1 hp => ?_
    obtain ⟨rfl, q⟩ := hp
    try simp only [thenW_n, thenW_e, thenW_r, blkW_n, blkW_e, blkW_r, if_true]
    refine W.chunk ?_
    simp (disch := first | omega | exact getEq rfl | exact getO0 | exact Nat.le_of_ble_eq_true rfl) [c9_o20, app_growP, app_noneP, plus_N, plus_at0, put_plus0, put_plus1, upd_N, upd_size, q]
    exact kR _ _ (by simp [T.get, q])
  · refine Tr.w fun s1 H1 hp R kR => W.trim ?_
    obtain ⟨rfl, q⟩ := hp
    clear mx gl gp
    generalize M.length = n at *
    refine W.assoc ?_
    refine W.seq (W.chunk ?_)
    simp (disch := first | omega | exact getEq rfl | exact getO0 | exact Nat.le_of_ble_eq_true rfl) [c9_o14, app_growP, app_noneP, plus_N, plus_at0, put_plus0, put_plus1, upd_N, upd_size, q]
    refine W.seq (W.chunk ?_)
    simp (disch := first | omega | exact getEq rfl | exact getO0 | exact Nat.le_of_ble_eq_true rfl) [app_growP, app_noneP, plus_N, plus_at0, put_plus0, put_plus1, upd_N, upd_size, q]
    exact kR _ _ rfl
end
structure KnD (J : CallF) : Prop where
  k23 : ∀ h, J 23 [] h = some (.bool true, [], false)
  k27 : K27 J
  k28 : K28 J
  k32 : K32 J
  k37 : K37 J
  k38 : K38 J
theorem divides_law (J : CallF) (K : KnD J) (hJ : ∀ a h, J 9 a h = none) (h : Heap) (a c : Int) {m : AV} {M : List (List Int)} (hm : MR h m M) : CallsTo tbl J 9 [G a, m, G c] h (.bool true, [], false) := by
  refine Tr.fnv (cf := c9) (e := .ret) (s := T.set (T.set (T.set .leaf [] (G a)) [false] m) [true] (G c)) (by decide) rfl (hJ _ _) rfl rfl rfl (by simp) ?_
  refine Tr.w fun s1 H1 hp R kR => ?_
  obtain ⟨rfl, rfl⟩ := hp
  have q : True := trivial
  have fin : ∀ s h', s.get [true, true] = .bool true → R .ret s h' := fun s h' a => kR _ _ ⟨[.bool true], by simp [c9, evRess, evRes, a], rfl⟩
  clear kR
  have b1 := mdZ_bd a (show (0 : Int) < 8 by decide)
  have k1 := fun h => K.k27 a 8 h (by decide) (by decide)
  obtain ⟨n, hn⟩ : ∃ n : Nat, mdZ a 8 = (n : Int) := ⟨(mdZ a 8).toNat, by omega⟩
  rw [hn] at b1 k1
  have ns : ((n + 1 : Nat) : Int) = 1 + (n : Int) := by omega
  have b2 := mdZ_bd c (show (0 : Int) < 1 + (n : Int) by omega)
  have k2 := fun h => K.k27 c (1 + (n : Int)) h (by omega) (by omega)
  obtain ⟨i, hi⟩ : ∃ i : Nat, mdZ c (1 + (n : Int)) = (i : Int) := ⟨(mdZ c (1 + (n : Int))).toNat, by omega⟩
  rw [hi] at b2 k2
  obtain ⟨x, own, N, k28, tg, hlN, hq⟩ := K.k28 (frameOf h) m M (n + 1) 1 (hm.lo []) (by omega) (by decide)
  have hN : isMat N = true := sqM_mat hq hlN (by omega) (by decide)
  have hx := tg.mr
  clear tg
  rw [ns] at k28
  generalize hH : (frameOf h).plus own = Ha at *
  have k23 := K.k23
  have hiN : i < N.length := by omega
  have inl : inL ⟨N, x, i⟩ := ⟨hN, by simp only; omega, by simp only; omega⟩
  obtain ⟨v1, own1, k32, _, p1⟩ := K.k32 Ha ⟨N, x⟩ hx
  obtain ⟨w1, rfl, ng1⟩ := p1 hN
  simp only at k32 ng1
  have kpa : Kp (fun _ => False) Ha (Ha.plus own1) := Kp.plus _ _
  have hxb := hx.kp kpa
  obtain ⟨qp, rfl, gp⟩ := ng1.l.sl (by intro e; have h0 : (gs (pdL N)).length = N.length := gl_len _ _; rw [e] at h0; simp at h0; omega)
  rw [show (gs (pdL N)).length = N.length from gl_len _ _] at k32 gp
  generalize hHb : Ha.plus own1 = Hb at *
  obtain ⟨v2, own2, k37, _, p2⟩ := K.k37 Hb ⟨N, x, i⟩ hxb
  have p2 := p2 inl
  simp only [Int.toNat_natCast] at k37 p2
  have kpb : Kp (fun _ => False) Hb (Hb.plus own2) := Kp.plus _ _
  have hxc := hxb.kp kpb
  generalize hHc : Hb.plus own2 = Hc at *
  obtain ⟨v3, own3, k38, _, p3, p4⟩ := K.k38 Hc ⟨N, x, i⟩ hxc
  have p3 := p3 inl
  have p4 := p4 inl
  simp only [Int.toNat_natCast] at k38 p3 p4
  have kpc : Kp (fun _ => False) Hc (Hc.plus own3) := Kp.plus _ _
  have hxd := hxc.kp kpc
  generalize hHd : Hc.plus own3 = Hd at *
  have gp : Hd.get qp = .cells 1 N.length (gs (pdL N)) := kpc.at (kpb.at gp (by simp) id) (by simp) id
  have ei : (gs (pdL N))[i]? = some (G (perN N i)) := gl_at _ hiN
  have hl0 : (gs (pdL N)).length = N.length := gl_len _ _
  rcases p2 with ⟨nc, rfl, rfl⟩ | ⟨c', hc, w2, rfl, ng2⟩
  · have pz := noCyc_per hN hiN nc
    obtain ⟨rfl, rfl⟩ := p3 pz
    have e0 : Hb = Hc := by rw [← hHc]; simp [Heap.plus]
    have e1 : Hc = Hd := by rw [← hHd]; simp [Heap.plus]
    subst e0 e1
    rw [pz] at ei
    have ei' := getI ei
    clear p4 hx hxb hxc hxd ng1 inl
    generalize gs (pdL N) = cp at *
    rw [hlN] at k32 gp hl0
    refine W.seq (W.chunk ?_)
    simp (disch := first | omega | exact getEq rfl | exact getO0 | exact Nat.le_of_ble_eq_true rfl) [c9_o0, app_growP, app_noneP, plus_N, plus_at0, put_plus0, put_plus1, upd_N, upd_size, q]
    refine W.seq (W.chunk ?_)
    simp (disch := first | omega | exact getEq rfl | exact getO0 | exact Nat.le_of_ble_eq_true rfl) [c9_o1, app_growP, app_noneP, plus_N, plus_at0, put_plus0, put_plus1, upd_N, upd_size, q, k1]
    refine W.seq (W.chunk ?_)
    simp (disch := first | omega | exact getEq rfl | exact getO0 | exact Nat.le_of_ble_eq_true rfl) [c9_o2, app_growP, app_noneP, plus_N, plus_at0, put_plus0, put_plus1, upd_N, upd_size, q, k28, app_if, app_if', hH]
    refine W.seq (W.chunk ?_)
    simp (disch := first | omega | exact getEq rfl | exact getO0 | exact Nat.le_of_ble_eq_true rfl) [c9_o3, app_growP, app_noneP, plus_N, plus_at0, put_plus0, put_plus1, upd_N, upd_size, q, k2]
    refine W.seq (W.chunk ?_)
    simp (disch := first | omega | exact getEq rfl | exact getO0 | exact Nat.le_of_ble_eq_true rfl) [c9_o4, app_growP, app_noneP, plus_N, plus_at0, put_plus0, put_plus1, upd_N, upd_size, q, k32, app_if, app_if', hHb]
    refine W.seq (W.chunk ?_)
    simp (disch := first | omega | exact getEq rfl | exact getO0 | exact Nat.le_of_ble_eq_true rfl) [c9_o5, app_growP, app_noneP, plus_N, plus_at0, put_plus0, put_plus1, upd_N, upd_size, q, k37]
    refine W.seq (W.chunk ?_)
    simp (disch := first | omega | exact getEq rfl | exact getO0 | exact Nat.le_of_ble_eq_true rfl) [c9_o6, app_growP, app_noneP, plus_N, plus_at0, put_plus0, put_plus1, upd_N, upd_size, q, k38]
    refine W.assoc ?_
    refine W.seq (W.chunk ?_)
    simp (disch := first | omega | exact getEq rfl | exact getO0 | exact Nat.le_of_ble_eq_true rfl) [c9_o7, app_growP, app_noneP, plus_N, plus_at0, put_plus0, put_plus1, upd_N, upd_size, q, gp, ei, ei', hl0, eqk, ns]
    refine W.seq (W.chunk ?_)
    simp (disch := first | omega | exact getEq rfl | exact getO0 | exact Nat.le_of_ble_eq_true rfl) [c9_o8, app_growP, app_noneP, plus_N, plus_at0, put_plus0, put_plus1, upd_N, upd_size, q]
    refine W.assoc ?_
    refine W.seq (W.chunk ?_)
    simp (disch := first | omega | exact getEq rfl | exact getO0 | exact Nat.le_of_ble_eq_true rfl) [c9_o9, app_growP, app_noneP, plus_N, plus_at0, put_plus0, put_plus1, upd_N, upd_size, q]
    refine W.seq (W.chunk ?_)
    simp (disch := first | omega | exact getEq rfl | exact getO0 | exact Nat.le_of_ble_eq_true rfl) [c9_o10, app_growP, app_noneP, plus_N, plus_at0, put_plus0, put_plus1, upd_N, upd_size, q, k23]
    exact fin _ _ (by simp [T.get])
  · obtain ⟨pn, pd⟩ := cyc_per hN hiN hc
    have ple := cyc_ple hN hiN hc
    obtain ⟨w3, rfl, ng3⟩ := p4 pn
    have ei' := getI ei
    obtain ⟨ql, rfl, gl⟩ := ng3.l.sl (by intro e; have h0 : (gs (lyL N i)).length = N.length := gl_len _ _; rw [e] at h0; simp at h0; omega)
    rw [show (gs (lyL N i)).length = N.length from gl_len _ _] at k38 gl
    have lw : (gs (wkL N i i c')).length = c' + 1 := by simp [wkL, wlk_len]
    obtain ⟨qw, rfl, _⟩ := ng2.l.sl (by intro e; rw [e] at lw; simp at lw)
    rw [lw] at k37
    have el : (gs (lyL N i))[i]? = some (G 0) := by rw [show (gs (lyL N i))[i]? = some (G (lyV N i i)) from gl_at _ hiN, lyV_i]
    have el' := getI el
    have hl1 : (gs (lyL N i)).length = N.length := gl_len _ _
    have c1 := hc.1
    have c2 := hc.2.1
    have hdv : (c' : Int) % (perN N i : Int) = 0 := by
      have := Nat.mod_eq_zero_of_dvd pd
      exact_mod_cast this
    obtain ⟨b, v, cs, rfl, mx⟩ := hxd.mx hN
    have l1 := d9_a J hN mx gl gp hiN pn ple
    have nc : ((c' + 1 : Nat) : Int) = (c' : Int) + 1 := by omega
    have k37 : J 37 [.slice b 0 N.length v, G i] Hb = some (.tup [.slice qw 0 (c' + 1) (c' + 1), G 0], own2, false) := k37
    clear p3 p4 hx hxb hxc hxd ng1 ng2 ng3 mx pd hc inl
    generalize perN N i = p at *
    generalize gs (pdL N) = cp at *
    generalize gs (lyL N i) = cl at *
    generalize N.length = nn at *
    subst hlN
    rw [ns] at l1
    refine W.seq (W.chunk ?_)
    simp (disch := first | omega | exact getEq rfl | exact getO0 | exact Nat.le_of_ble_eq_true rfl) [c9_o0, app_growP, app_noneP, plus_N, plus_at0, put_plus0, put_plus1, upd_N, upd_size, q]
    refine W.seq (W.chunk ?_)
    simp (disch := first | omega | exact getEq rfl | exact getO0 | exact Nat.le_of_ble_eq_true rfl) [c9_o1, app_growP, app_noneP, plus_N, plus_at0, put_plus0, put_plus1, upd_N, upd_size, q, k1]
    refine W.seq (W.chunk ?_)
    simp (disch := first | omega | exact getEq rfl | exact getO0 | exact Nat.le_of_ble_eq_true rfl) [c9_o2, app_growP, app_noneP, plus_N, plus_at0, put_plus0, put_plus1, upd_N, upd_size, q, k28, app_if, app_if', hH]
    refine W.seq (W.chunk ?_)
    simp (disch := first | omega | exact getEq rfl | exact getO0 | exact Nat.le_of_ble_eq_true rfl) [c9_o3, app_growP, app_noneP, plus_N, plus_at0, put_plus0, put_plus1, upd_N, upd_size, q, k2]
    refine W.seq (W.chunk ?_)
    simp (disch := first | omega | exact getEq rfl | exact getO0 | exact Nat.le_of_ble_eq_true rfl) [c9_o4, app_growP, app_noneP, plus_N, plus_at0, put_plus0, put_plus1, upd_N, upd_size, q, k32, app_if, app_if', hHb]
    refine W.seq (W.chunk ?_)
    simp (disch := first | omega | exact getEq rfl | exact getO0 | exact Nat.le_of_ble_eq_true rfl) [c9_o5, app_growP, app_noneP, plus_N, plus_at0, put_plus0, put_plus1, upd_N, upd_size, q, k37, app_if, app_if', hHc]
    refine W.seq (W.chunk ?_)
    simp (disch := first | omega | exact getEq rfl | exact getO0 | exact Nat.le_of_ble_eq_true rfl) [c9_o6, app_growP, app_noneP, plus_N, plus_at0, put_plus0, put_plus1, upd_N, upd_size, q, k38, app_if, app_if', hHd]
    refine W.assoc ?_
    refine W.seq (W.chunk ?_)
    simp (disch := first | omega | exact getEq rfl | exact getO0 | exact Nat.le_of_ble_eq_true rfl) [c9_o7, app_growP, app_noneP, plus_N, plus_at0, put_plus0, put_plus1, upd_N, upd_size, q, gp, gl, ei, ei', hl0, eqk, ns]
    refine W.seq (W.chunk ?_)
    simp (disch := first | omega | exact getEq rfl | exact getO0 | exact Nat.le_of_ble_eq_true rfl) [c9_o8, app_growP, app_noneP, plus_N, plus_at0, put_plus0, put_plus1, upd_N, upd_size, q]
    refine W.assoc ?_
    refine W.seq (W.chunk ?_)
    simp (disch := first | omega | exact getEq rfl | exact getO0 | exact Nat.le_of_ble_eq_true rfl) [c9_o9, app_growP, app_noneP, plus_N, plus_at0, put_plus0, put_plus1, upd_N, upd_size, q]
    refine W.seq (W.chunk ?_)
    simp (disch := first | omega | exact getEq rfl | exact getO0 | exact Nat.le_of_ble_eq_true rfl) [c9_o10, app_growP, app_noneP, plus_N, plus_at0, put_plus0, put_plus1, upd_N, upd_size, q]
    refine W.assoc ?_
    refine W.seq (W.chunk ?_)
    simp (disch := first | omega | exact getEq rfl | exact getO0 | exact Nat.le_of_ble_eq_true rfl) [c9_o11, app_growP, app_noneP, plus_N, plus_at0, put_plus0, put_plus1, upd_N, upd_size, q, gp, gl, ei, ei', el, el', hl0, hl1, nc, hdv, ns]
    refine W.seq (W.chunk ?_)
    simp (disch := first | omega | exact getEq rfl | exact getO0 | exact Nat.le_of_ble_eq_true rfl) [c9_o12, app_growP, app_noneP, plus_N, plus_at0, put_plus0, put_plus1, upd_N, upd_size, q]
    refine W.assoc ?_
    refine W.seq (W.chunk ?_)
    simp (disch := first | omega | exact getEq rfl | exact getO0 | exact Nat.le_of_ble_eq_true rfl) [c9_o13, app_growP, app_noneP, plus_N, plus_at0, put_plus0, put_plus1, upd_N, upd_size, q]
    refine W.seq (W.block ?_)
    refine W.use (l1) (by simp (disch := first | omega | exact getEq rfl | exact getO0 | exact Nat.le_of_ble_eq_true rfl) [app_growP, app_noneP, plus_N, plus_at0, put_plus0, put_plus1, upd_N, upd_size, q]) fun s1 H1 hp => ?_
    obtain rfl := hp
    try simp only [thenW_n, thenW_e, thenW_r, blkW_n, blkW_e, blkW_r, if_true]
    refine W.seq (W.chunk ?_)
    simp (disch := first | omega | exact getEq rfl | exact getO0 | exact Nat.le_of_ble_eq_true rfl) [c9_o21, app_growP, app_noneP, plus_N, plus_at0, put_plus0, put_plus1, upd_N, upd_size, q, k23]
    refine W.ret ?_
    try simp only [thenW_n, thenW_e, thenW_r, blkW_n, blkW_e, blkW_r, if_true]
    exact fin _ _ (by simp [T.get])
theorem knD : KnD T35 where
  k23 := fun h => by
    simp (disch := decide) only [T35, T34, T33, T32, T31, T30, T29, T28, T27, T26, T25, T24, T23, T22, T21, T20, T19, T18, T17, T16, T15, T14, T13, T12, T11, T10, T9, T8, T7, T6, T5, T4, T3, T2, T1, addI_ne, addX_ne, addV_ne, addK_ne]
    exact k23_r h
  k27 := fun x n h a b => by
    simp (disch := decide) only [T35, T34, T33, T32, T31, T30, T29, T28, T27, T26, T25, T24, T23, T22, T21, T20, T19, T18, T17, T16, T15, T14, T13, T12, T11, T10, T9, T8, T7, T6, T5, T4, T3, addX_ne, addK_ne]
    exact k27_2 x n h a b
  k28 := fun h y M n most a b c => by
    simp (disch := decide) only [T35, T34, T33, T32, T31, T30, T29, T28, T27, T26, T25, T24, T23, T22, T21, T20, T19, T18, T17, T16, T15, T14, T13, T12, T11, T10, T9, T8, T7, T6, T5, T4, addX_ne, addK_ne]
    exact k28 h y M n most a b c
  k32 := fun h a ha => by
    simp (disch := decide) only [T35, T34, T33, T32, T31, T30, T29, T28, addK_ne]
    exact k32 h a ha
  k37 := fun h a ha => by
    exact k37 h a ha
  k38 := fun h a ha => by
    simp (disch := decide) only [T35, T34, addK_ne]
    exact k38 h a ha
theorem divides_ok (h : Heap) (a c : Int) {m : AV} {M : List (List Int)} (hm : MR h m M) : CallsTo tbl T35 9 [G a, m, G c] h (.bool true, [], false) := divides_law T35 knD (fun _ _ => by simp (disch := decide) only [T35, T34, T33, T32, T31, T30, T29, T28, T27, T26, T25, T24, T23, T22, T21, T20, T19, T18, T17, T16, T15, T14, T13, T12, T11, T10, T9, T8, T7, T6, T5, T4, T3, T2, T1, R21, R20, R19, R18, R17, R16, R15, R14, R13, R12, R11, R10, R9, R8, R7, R6, R5, R4, R3, R2, R1, addI_ne, addX_ne, addV_ne, addK_ne]; rfl) h a c hm
end Go.Proofs.Ytjeemgaoonapgaa.Ev
set_option linter.unusedVariables false
set_option linter.unusedSimpArgs false
namespace Go.AEv
open Go.ChangeShapes Go.WideShapes Go.Proofs.Ytjeemgaoonapgaa.Ev
theorem MR.ext {h h' : Heap} (e : Ext h h') {y : AV} {M : List (List Int)} (m : MR h y M) : MR h' y M := by
  rcases m with m | ⟨b, v, cs, rfl, g, hl, hr⟩
  · exact .inl m
  · refine .inr ⟨b, v, cs, rfl, e _ _ g (by simp), hl, fun i r q => ?_⟩
    obtain ⟨l, h1, h2⟩ := hr i r q
    exact ⟨l, h1, LR.ext e h2⟩
theorem rows_lo {CK : CKT} {w : World} {H : Type} {enc : TypeId × Value → H} {P : Program} {e i : TypeId} (he : P.underlying e = some (.slice i)) (hi : P.underlying i = some (.int .i64)) (hc : P.cellsOf i = 1) :
    ∀ (vs : List Value) {φ : Nat → Emb} {h : Heap} (ho : h.own = []) (hr : HR CK w [] φ h w), (∀ u ∈ vs, ∃ fuel z, DataW.trod enc P w 0 (fun _ => true) true fuel e [u] = some z) →
    ∃ φ' h', ∃ (rs : List AV) (ls : List (List Int)), h'.own = [] ∧ HR CK w [] φ' h' w ∧ Stp φ h φ' h' ∧ Ext h h' ∧ rs.length = vs.length ∧ ls.length = vs.length ∧ ∀ (j : Nat) u r, vs[j]? = some u → rs[j]? = some r → VR φ' h' r u ∧ Value.oneCell' u = true ∧ ∃ l, ls[j]? = some l ∧ LR h' r l
  | [], φ, h, ho, hr, _ => ⟨φ, h, [], [], ho, hr, Stp.refl φ h, Ext.refl h, rfl, rfl, fun j u r q => by simp at q⟩
  | u :: us, φ, h, ho, hr, ht => by
    obtain ⟨fuel, z, hf⟩ := ht u (by simp)
    obtain ⟨φ1, h1, x, l, o1, r1, s1, e1, v1, p1, c1⟩ := ints_lo0 ho hr he hi hc hf
    obtain ⟨φ2, h2, rs, ls, o2, r2, s2, e2, l1, l2, q⟩ := rows_lo he hi hc us o1 r1 (fun u' hu => ht u' (by simp [hu]))
    refine ⟨φ2, h2, x :: rs, l :: ls, o2, r2, s1.trans s2, e1.trans e2, by simp [l1], by simp [l2], fun j u' r hu hr' => ?_⟩
    cases j with
    | zero =>
      simp only [List.getElem?_cons_zero, Option.some.injEq] at hu hr'
      subst hu hr'
      exact ⟨VR.step s2 _ _ v1, c1, l, rfl, p1.ext e2⟩
    | succ j =>
      simp only [List.getElem?_cons_succ] at hu hr' ⊢
      exact q j u' r hu hr'
theorem mat_lo {CK : CKT} {φ : Nat → Emb} {h : Heap} {w : World} (ho : h.own = []) (hr : HR CK w [] φ h w) {H : Type} {enc : TypeId × Value → H} {P : Program} {t e i : TypeId} {v : Value} {d : DataW H} {p : List MemPlace}
    (ht : P.underlying t = some (.slice e)) (he : P.underlying e = some (.slice i)) (hi : P.underlying i = some (.int .i64)) (hce : P.cellsOf e = 1) (hci : P.cellsOf i = 1) (hvs : ∃ a len cap, v = .slice a len cap) (k : DataW.Trod enc P w 0 (fun _ => true) true t v d p) :
    ∃ φ' h' x M, h'.own = [] ∧ HR CK w [] φ' h' w ∧ Stp φ h φ' h' ∧ Ext h h' ∧ VR φ' h' x v ∧ MR h' x M := by
  obtain ⟨va, vl, vc, rfl⟩ := hvs
  obtain ⟨fuel, hf⟩ := k
  rcases DataW.trod_slice ht hf with ⟨hcs, _⟩ | ⟨a, len, cap, elems, rest, n, _, hcs, _, _, hl, hm, hlen, hel, hsp, _⟩
  · have hcs' : Value.slice va vl vc = .slice none 0 0 := (List.cons.inj hcs).1
    rw [hcs']
    exact ⟨φ, h, .nils, [], ho, hr, Stp.refl φ h, Ext.refl h, by simp [VR], .inl ⟨.inl rfl, rfl⟩⟩
  · have hcs' : Value.slice va vl vc = .slice (some a) len cap := (List.cons.inj hcs).1
    rw [hcs']
    by_cases h0 : len = 0
    · subst h0
      exact ⟨φ, h, .slice0, [], ho, hr, Stp.refl φ h, Ext.refl h, by simp [VR], .inl ⟨.inr rfl, rfl⟩⟩
    · obtain ⟨hrl, hre⟩ := hsp rfl
      have each : ∀ j, j < cap → ∃ u, w.cell? (a.add j) = some u ∧ ∃ z, DataW.trod enc P w 0 (fun _ => true) true n e [u] = some z := fun j hj => by
        have hb' : ∃ y, (w.cells? 0 (a.add (j * P.cellsOf e)) (P.cellsOf e)).bind (DataW.trod enc P w 0 (fun _ => true) true n e) = some y := by
          by_cases hjl : j < len
          · rw [hel j hjl, List.getElem?_eq_getElem (by omega)]; exact ⟨_, rfl⟩
          · have := hre (j - len) (by omega)
            rw [show len + (j - len) = j by omega] at this
            rw [this, List.getElem?_eq_getElem (by omega)]; exact ⟨_, rfl⟩
        obtain ⟨y, hy⟩ := hb'
        rw [hce, Nat.mul_one, Option.bind_eq_some_iff] at hy
        obtain ⟨cs', h1, h2⟩ := hy
        have hl1 := (World.cells?_some h1).2.1
        obtain ⟨u, rfl⟩ : ∃ u, cs' = [u] := by
          cases cs' with
          | nil => simp at hl1
          | cons u r => cases r with
            | nil => exact ⟨u, rfl⟩
            | cons u' r => simp at hl1
        exact ⟨u, cell_of_cells?_one h1, y, h2⟩
      obtain ⟨f, hfe⟩ : ∃ f : Nat → Value, ∀ j, j < cap → w.cell? (a.add j) = some (f j) ∧ ∃ z, DataW.trod enc P w 0 (fun _ => true) true n e [f j] = some z :=
        ⟨fun j => if hj : j < cap then Classical.choose (each j hj) else .nilFunc, fun j hj => by
          simp only [dif_pos hj]
          exact Classical.choose_spec (each j hj)⟩
      obtain ⟨b, off, spot⟩ := a
      have hspot : spot = none := by simpa [Addr.add] using World.cell?_spot (hfe 0 (by omega)).1
      subst hspot
      have hcell : ∀ j, j < cap → w.cell? ⟨b, off + j, none⟩ = some (f j) := fun j hj => by rw [← Go.WideShapes.add_plain]; exact (hfe j hj).1
      obtain ⟨c, ty, fr, hb, hc0⟩ := cell_obj (hcell 0 (by omega))
      have hcj : ∀ j, j < cap → c[off + j]? = some (f j) := fun j hj => by
        obtain ⟨c', ty', fr', hb', hcj⟩ := cell_obj (hcell j hj)
        rw [hb] at hb'
        simp only [Option.some.injEq, Obj.cells.injEq] at hb'
        obtain ⟨rfl, _⟩ := hb'
        exact hcj
      have hsize : off + cap ≤ c.size := by
        have := (Array.getElem?_eq_some_iff.1 (hcj (cap - 1) (by omega))).1
        omega
      obtain ⟨φ1, h1, rs, ls, o1, r1, s1, e1, l1, l2, q⟩ := rows_lo he hi hci ((List.range len).map f) ho hr (fun u hu => by
        obtain ⟨j, hj, rfl⟩ := List.mem_map.1 hu
        obtain ⟨z, hz⟩ := (hfe j (by have := List.mem_range.1 hj; omega)).2
        exact ⟨n, z, hz⟩)
      simp only [List.length_map, List.length_range] at l1 l2
      have hat : ∀ j, j < len → ((List.range len).map f)[j]? = some (f j) := fun j hj => by simp [hj]
      refine ⟨AEv.upd φ1 h1.N ⟨b, off, cap⟩, h1.more (.cells 1 len rs), .slice h1.N 0 len len, ls, rfl, lo_add o1 r1 _ _ ?_, s1.trans (lo_stp o1 _ _), e1.trans (more_ext h1 o1 _), ?_, .inr ⟨h1.N, len, rs, by rw [l2], more_at _ _, by omega, fun j r hr' => ?_⟩⟩
      · refine ⟨c, ty, fr, hb, hsize, by show rs.length ≤ cap; omega, fun j x hx => ?_⟩
        have hj : j < len := by have := (List.getElem?_eq_some_iff.1 hx).1; omega
        obtain ⟨q1, q2, _⟩ := q j (f j) x (hat j hj) hx
        exact ⟨f j, hcj j (by omega), VR.step (lo_stp o1 _ _) _ _ q1, q2⟩
      · simp only [VR]
        exact ⟨_, cap, 1, len, _, rfl, hl, more_at _ _, Nat.le_refl _, fun _ => ⟨by simp [AEv.upd], fun _ _ => by simp [AEv.upd]⟩⟩
      · have hj : j < len := by have := (List.getElem?_eq_some_iff.1 hr').1; omega
        obtain ⟨_, _, l, q3, q4⟩ := q j (f j) r (hat j hj) hr'
        exact ⟨l, q3, q4.ext (more_ext h1 o1 _)⟩
end Go.AEv
