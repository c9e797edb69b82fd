/-
  Of the functions that this law reaches, part 2: what they answer. No condition.
-/
import Derived.Test.YtjeemgaoonapgaaRP1
import Derived.Test.YtjeemgaoonapgaaRP0
set_option linter.unusedVariables false
set_option linter.unusedSimpArgs false
namespace Go.Proofs.Ytjeemgaoonapgaa.Ev
open Go Go.AEv
attribute [local simp] evFunc initS evOps_c evTrim_c evSkip_c evExit_c evRet_c evSeq_c evCond_c evBlock_c evDraw_c runOps_n runOps_c exec_n exec_g pure1_c act AOpd.ev T.get T.set T.put evBin evUn forceT_eq forceV_eq forceL_eq evRess evRes one keep runFP_n runFP_c app_none AV.flats AV.flat came_some List.getElem?_cons_zero List.getElem?_cons_succ beqT wrapI idxI tdivI tmodI decT decF ibT ibF inT inF evScope_c if_pos if_neg Cm_some thenW_n thenW_e thenW_r blkW_n blkW_e blkW_r goI kn putAt AV.cells fillA loadA takeA mk Eff.isAll Eff.isNone Eff.commutes Eff.spares okPair apart eqAgg fits LK.fits allEq aveq eqk mmA
section
variable {M : List (List Int)}
def FI (M : List (List Int)) (i x y : Nat) (b : Bool) : Prop := b = true ↔ clN M i = i ∧ ∀ u v, (u < x ∨ (u = x ∧ v < y)) → 0 < ent M u v → clN M u = i → clN M v = i
theorem FI.no {i x y x' y' : Nat} (l : FI M i x y false) (h : x < x' ∨ (x = x' ∧ y ≤ y')) : FI M i x' y' false :=
  ⟨fun e => (by cases e), fun ⟨a, b⟩ => l.2 ⟨a, fun u v c => b u v (by omega)⟩⟩
theorem FI.keep {i x y : Nat} (l : FI M i x y true) (h : 0 < ent M x y → clN M x = i → clN M y = i) : FI M i x (y + 1) true :=
  ⟨fun e => ⟨(l.1 e).1, fun u v c => by
    by_cases cc : u = x ∧ v = y
    · rw [cc.1, cc.2]; exact h
    · exact (l.1 e).2 u v (by omega)⟩, fun _ => rfl⟩
theorem FI.brk {i x y : Nat} (h1 : 0 < ent M x y) (h2 : clN M x = i) (h3 : clN M y ≠ i) : FI M i x (y + 1) false :=
  ⟨fun e => (by cases e), fun ⟨_, b⟩ => absurd (b x y (by omega) h1 h2) h3⟩
theorem FI.nextx (hm : isMat M = true) {i x : Nat} {b : Bool} (l : FI M i x M.length b) : FI M i (x + 1) 0 b :=
  ⟨fun e => ⟨(l.1 e).1, fun u v c e2 => (l.1 e).2 u v (by have := (ent_lt hm e2).2; omega) e2⟩, fun ⟨a, c⟩ => l.2 ⟨a, fun u v d => c u v (by omega)⟩⟩
theorem FI.done (hm : isMat M = true) {i : Nat} {b : Bool} (l : FI M i M.length 0 b) : b = true ↔ finP M i :=
  l.trans ⟨fun ⟨a, c⟩ => ⟨a, fun u v e => c u v (.inl (ent_lt hm e).1) e⟩, fun ⟨a, c⟩ => ⟨a, fun u v _ => c u v⟩⟩
theorem FI.init {i : Nat} {b : Bool} (h : b = true ↔ clN M i = i) : FI M i 0 0 b := h.trans ⟨fun a => ⟨a, fun u v c => absurd c (by omega)⟩, fun a => a.1⟩
theorem c52_y (J : CallF) (hm : isMat M = true) {H : Heap} {b v qc i x : Nat} {cs : List AV} {xo : AV} (mx : MX H M b v cs) (gc : H.get qc = .cells 1 M.length (gs (clsL M))) (hx : x < M.length) :
    Tr tbl J c52_l0 (fun s h => ∃ w, FI M i x 0 w ∧ h = H ∧ s.get [] = .slice b 0 M.length v ∧ s.get [false, false] = .slice qc 0 M.length M.length ∧ s.get [true, false] = xo ∧ s.get [false, true] = G i ∧ s.get [true, true] = .bool w ∧ s.get [false, false, false] = G x ∧ s.get [true, false, false] = G ((0 : Nat) : Int)) (.exit 4)
      (fun s h => ∃ w, FI M i x M.length w ∧ h = H ∧ s.get [] = .slice b 0 M.length v ∧ s.get [false, false] = .slice qc 0 M.length M.length ∧ s.get [true, false] = xo ∧ s.get [false, true] = G i ∧ s.get [true, true] = .bool w ∧ s.get [false, false, false] = G x) := by
  have h8 := isMat_n hm
  refine Tr.rounds (P := fun y s h => ∃ w, FI M i x y w ∧ h = H ∧ s.get [] = .slice b 0 M.length v ∧ s.get [false, false] = .slice qc 0 M.length M.length ∧ s.get [true, false] = xo ∧ s.get [false, true] = G i ∧ s.get [true, true] = .bool w ∧ s.get [false, false, false] = G x ∧ s.get [true, false, false] = G y) (M := M.length) (fun y hy => ?_) ?_ (by simp) 0 (by omega)
  · refine Tr.w fun s1 H1 hp R kR => W.trim ?_
    obtain ⟨w, fi, rfl, q⟩ := hp
    obtain ⟨rb, rv, er, gr⟩ := mx.r x hx
    have gb := mx.g
    have ee := row_at hm hx hy
    have cx : (gs (clsL M))[x]? = some (G (clN M x)) := gl_at _ hx
    have cy : (gs (clsL M))[y]? = some (G (clN M y)) := gl_at _ hy
    have er' := getI er
    have ee' := getI ee
    have cx' := getI cx
    have cy' := getI cy
    have a0 := (ent_bd hm x y).1
    cases w
    · have fi2 := fi.no (x' := x) (y' := y + 1) (by omega)
      clear mx fi
      refine W.assoc ?_
      refine W.seq (W.chunk ?_)
      simp (disch := first | omega | exact getEq rfl | exact getO0 | exact Nat.le_of_ble_eq_true rfl) [c52_o9, app_growP, app_noneP, plus_N, plus_at0, put_plus0, put_plus1, upd_N, upd_size, q]
      refine W.seq (W.chunk ?_)
      simp (disch := first | omega | exact getEq rfl | exact getO0 | exact Nat.le_of_ble_eq_true rfl) [app_growP, app_noneP, plus_N, plus_at0, put_plus0, put_plus1, upd_N, upd_size, q]
      refine W.seq (W.block ?_)
      refine W.chunk ?_
      simp (disch := first | omega | exact getEq rfl | exact getO0 | exact Nat.le_of_ble_eq_true rfl) [c52_o10, app_growP, app_noneP, plus_N, plus_at0, put_plus0, put_plus1, upd_N, upd_size, q]
      refine W.chunk ?_
      simp (disch := first | omega | exact getEq rfl | exact getO0 | exact Nat.le_of_ble_eq_true rfl) [c52_o11, app_growP, app_noneP, plus_N, plus_at0, put_plus0, put_plus1, upd_N, upd_size, q]
      exact kR _ _ ⟨false, fi2, rfl, by simp [T.get, q]⟩
    · by_cases c1 : clN M x = i
      · by_cases c2 : 0 < ent M x y
        · by_cases c3 : clN M y = i
          · have fi2 := fi.keep (y := y) (fun _ _ => c3)
            have c4 : ¬ ent M x y = 0 := by omega
            rw [c1] at cx cx'
            rw [c3] at cy cy'
            clear mx fi
            generalize ent M x y = a at *
            generalize gs (M.getD x []) = cr at *
            generalize gs (clsL M) = ccs at *
            refine W.assoc ?_
            refine W.seq (W.chunk ?_)
            simp (disch := first | omega | exact getEq rfl | exact getO0 | exact Nat.le_of_ble_eq_true rfl) [c52_o9, app_growP, app_noneP, plus_N, plus_at0, put_plus0, put_plus1, upd_N, upd_size, q]
            refine W.seq (W.chunk ?_)
            simp (disch := first | omega | exact getEq rfl | exact getO0 | exact Nat.le_of_ble_eq_true rfl) [app_growP, app_noneP, plus_N, plus_at0, put_plus0, put_plus1, upd_N, upd_size, q]
            refine W.seq (W.block ?_)
            refine W.chunk ?_
            simp (disch := first | omega | exact getEq rfl | exact getO0 | exact Nat.le_of_ble_eq_true rfl) [c52_o10, app_growP, app_noneP, plus_N, plus_at0, put_plus0, put_plus1, upd_N, upd_size, q, gb, gc, er, er', gr, ee, ee', cx, cx', cy, cy', c4]
            refine W.chunk ?_
            simp (disch := first | omega | exact getEq rfl | exact getO0 | exact Nat.le_of_ble_eq_true rfl) [c52_o11, app_growP, app_noneP, plus_N, plus_at0, put_plus0, put_plus1, upd_N, upd_size, q]
            exact kR _ _ ⟨true, fi2, rfl, by simp [T.get, q]⟩
          · have fi2 := FI.brk c2 c1 c3
            have c4 : ¬ ent M x y = 0 := by omega
            have c5 : ¬ (clN M y : Int) = i := by omega
            rw [c1] at cx cx'
            clear mx fi
            generalize ent M x y = a at *
            generalize clN M y = z at *
            generalize gs (M.getD x []) = cr at *
            generalize gs (clsL M) = ccs at *
            refine W.assoc ?_
            refine W.seq (W.chunk ?_)
            simp (disch := first | omega | exact getEq rfl | exact getO0 | exact Nat.le_of_ble_eq_true rfl) [c52_o9, app_growP, app_noneP, plus_N, plus_at0, put_plus0, put_plus1, upd_N, upd_size, q]
            refine W.seq (W.chunk ?_)
            simp (disch := first | omega | exact getEq rfl | exact getO0 | exact Nat.le_of_ble_eq_true rfl) [app_growP, app_noneP, plus_N, plus_at0, put_plus0, put_plus1, upd_N, upd_size, q]
            refine W.seq (W.block ?_)
            refine W.chunk ?_
            simp (disch := first | omega | exact getEq rfl | exact getO0 | exact Nat.le_of_ble_eq_true rfl) [c52_o10, app_growP, app_noneP, plus_N, plus_at0, put_plus0, put_plus1, upd_N, upd_size, q, gb, gc, er, er', gr, ee, ee', cx, cx', cy, cy', c4, c5]
            refine W.chunk ?_
            simp (disch := first | omega | exact getEq rfl | exact getO0 | exact Nat.le_of_ble_eq_true rfl) [c52_o11, app_growP, app_noneP, plus_N, plus_at0, put_plus0, put_plus1, upd_N, upd_size, q]
            exact kR _ _ ⟨false, fi2, rfl, by simp [T.get, q]⟩
        · have fi2 := fi.keep (y := y) (fun h => absurd h c2)
          have c4 : ent M x y = 0 := by omega
          rw [c1] at cx cx'
          rw [c4] at ee ee'
          clear mx fi
          generalize gs (M.getD x []) = cr at *
          generalize gs (clsL M) = ccs at *
          refine W.assoc ?_
          refine W.seq (W.chunk ?_)
          simp (disch := first | omega | exact getEq rfl | exact getO0 | exact Nat.le_of_ble_eq_true rfl) [c52_o9, app_growP, app_noneP, plus_N, plus_at0, put_plus0, put_plus1, upd_N, upd_size, q]
          refine W.seq (W.chunk ?_)
          simp (disch := first | omega | exact getEq rfl | exact getO0 | exact Nat.le_of_ble_eq_true rfl) [app_growP, app_noneP, plus_N, plus_at0, put_plus0, put_plus1, upd_N, upd_size, q]
          refine W.seq (W.block ?_)
          refine W.chunk ?_
          simp (disch := first | omega | exact getEq rfl | exact getO0 | exact Nat.le_of_ble_eq_true rfl) [c52_o10, app_growP, app_noneP, plus_N, plus_at0, put_plus0, put_plus1, upd_N, upd_size, q, gb, gc, er, er', gr, ee, ee', cx, cx', cy, cy']
          refine W.chunk ?_
          simp (disch := first | omega | exact getEq rfl | exact getO0 | exact Nat.le_of_ble_eq_true rfl) [c52_o11, app_growP, app_noneP, plus_N, plus_at0, put_plus0, put_plus1, upd_N, upd_size, q]
          exact kR _ _ ⟨true, fi2, rfl, by simp [T.get, q]⟩
      · have fi2 := fi.keep (y := y) (fun _ h => absurd h c1)
        have c5 : ¬ (clN M x : Int) = i := by omega
        clear mx fi
        generalize clN M x = z at *
        generalize gs (M.getD x []) = cr at *
        generalize gs (clsL M) = ccs at *
        refine W.assoc ?_
        refine W.seq (W.chunk ?_)
        simp (disch := first | omega | exact getEq rfl | exact getO0 | exact Nat.le_of_ble_eq_true rfl) [c52_o9, app_growP, app_noneP, plus_N, plus_at0, put_plus0, put_plus1, upd_N, upd_size, q]
        refine W.seq (W.chunk ?_)
        simp (disch := first | omega | exact getEq rfl | exact getO0 | exact Nat.le_of_ble_eq_true rfl) [app_growP, app_noneP, plus_N, plus_at0, put_plus0, put_plus1, upd_N, upd_size, q]
        refine W.seq (W.block ?_)
        refine W.chunk ?_
        simp (disch := first | omega | exact getEq rfl | exact getO0 | exact Nat.le_of_ble_eq_true rfl) [c52_o10, app_growP, app_noneP, plus_N, plus_at0, put_plus0, put_plus1, upd_N, upd_size, q, gb, gc, er, er', gr, ee, ee', cx, cx', cy, cy', c5]
        refine W.chunk ?_
        simp (disch := first | omega | exact getEq rfl | exact getO0 | exact Nat.le_of_ble_eq_true rfl) [c52_o11, app_growP, app_noneP, plus_N, plus_at0, put_plus0, put_plus1, upd_N, upd_size, q]
        exact kR _ _ ⟨true, fi2, rfl, by simp [T.get, q]⟩
  · refine Tr.w fun s1 H1 hp R kR => W.trim ?_
    obtain ⟨w, fi, rfl, q⟩ := hp
    clear mx
    refine W.assoc ?_
    refine W.seq (W.chunk ?_)
    simp (disch := first | omega | exact getEq rfl | exact getO0 | exact Nat.le_of_ble_eq_true rfl) [c52_o9, app_growP, app_noneP, plus_N, plus_at0, put_plus0, put_plus1, upd_N, upd_size, q]
    refine W.seq (W.chunk ?_)
    simp (disch := first | omega | exact getEq rfl | exact getO0 | exact Nat.le_of_ble_eq_true rfl) [app_growP, app_noneP, plus_N, plus_at0, put_plus0, put_plus1, upd_N, upd_size, q]
    exact kR _ _ ⟨w, fi, rfl, by simp [T.get, q]⟩
theorem c52_x (J : CallF) (hm : isMat M = true) {H : Heap} {b v qc i : Nat} {cs : List AV} {xo : AV} (mx : MX H M b v cs) (gc : H.get qc = .cells 1 M.length (gs (clsL M))) :
    Tr tbl J c52_l1 (fun s h => ∃ w, FI M i 0 0 w ∧ h = H ∧ s.get [] = .slice b 0 M.length v ∧ s.get [false, false] = .slice qc 0 M.length M.length ∧ s.get [true, false] = xo ∧ s.get [false, true] = G i ∧ s.get [true, true] = .bool w ∧ s.get [false, false, false] = G ((0 : Nat) : Int)) (.exit 2)
      (fun s h => ∃ w, FI M i M.length 0 w ∧ h = H ∧ s.get [] = .slice b 0 M.length v ∧ s.get [false, false] = .slice qc 0 M.length M.length ∧ s.get [true, false] = xo ∧ s.get [false, true] = G i ∧ s.get [true, true] = .bool w) := by
  have h8 := isMat_n hm
  refine Tr.rounds (P := fun x s h => ∃ w, FI M i x 0 w ∧ h = H ∧ s.get [] = .slice b 0 M.length v ∧ s.get [false, false] = .slice qc 0 M.length M.length ∧ s.get [true, false] = xo ∧ s.get [false, true] = G i ∧ s.get [true, true] = .bool w ∧ s.get [false, false, false] = G x) (M := M.length) (fun x hx => ?_) ?_ (by simp) 0 (by omega)
  · refine Tr.w fun s1 H1 hp R kR => W.trim ?_
    obtain ⟨w, fi, rfl, q⟩ := hp
    have l0 := c52_y (i := i) (xo := xo) J hm mx gc hx
    clear mx
    refine W.assoc ?_
    refine W.seq (W.chunk ?_)
    simp (disch := first | omega | exact getEq rfl | exact getO0 | exact Nat.le_of_ble_eq_true rfl) [c52_o7, app_growP, app_noneP, plus_N, plus_at0, put_plus0, put_plus1, upd_N, upd_size, q]
    refine W.seq (W.chunk ?_)
    simp (disch := first | omega | exact getEq rfl | exact getO0 | exact Nat.le_of_ble_eq_true rfl) [app_growP, app_noneP, plus_N, plus_at0, put_plus0, put_plus1, upd_N, upd_size, q]
    refine W.seq (W.block ?_)
    refine W.seq (W.chunk ?_)
    simp (disch := first | omega | exact getEq rfl | exact getO0 | exact Nat.le_of_ble_eq_true rfl) [c52_o8, app_growP, app_noneP, plus_N, plus_at0, put_plus0, put_plus1, upd_N, upd_size, q]
    refine W.block ?_
    refine W.use (l0) (by simp (disch := first | omega | exact getEq rfl | exact getO0 | exact Nat.le_of_ble_eq_true rfl) [app_growP, app_noneP, plus_N, plus_at0, put_plus0, put_plus1, upd_N, upd_size, q, fi]) fun s1 H1 hp => ?_
    obtain ⟨w2, fi2, rfl, q⟩ := hp
    try simp only [thenW_n, thenW_e, thenW_r, blkW_n, blkW_e, blkW_r, if_true]
    refine W.chunk ?_
    simp (disch := first | omega | exact getEq rfl | exact getO0 | exact Nat.le_of_ble_eq_true rfl) [c52_o12, app_growP, app_noneP, plus_N, plus_at0, put_plus0, put_plus1, upd_N, upd_size, q]
    exact kR _ _ ⟨w2, fi2.nextx hm, rfl, by simp [T.get, q]⟩
  · refine Tr.w fun s1 H1 hp R kR => W.trim ?_
    obtain ⟨w, fi, rfl, q⟩ := hp
    clear mx
    refine W.assoc ?_
    refine W.seq (W.chunk ?_)
    simp (disch := first | omega | exact getEq rfl | exact getO0 | exact Nat.le_of_ble_eq_true rfl) [c52_o7, app_growP, app_noneP, plus_N, plus_at0, put_plus0, put_plus1, upd_N, upd_size, q]
    refine W.seq (W.chunk ?_)
    simp (disch := first | omega | exact getEq rfl | exact getO0 | exact Nat.le_of_ble_eq_true rfl) [app_growP, app_noneP, plus_N, plus_at0, put_plus0, put_plus1, upd_N, upd_size, q]
    exact kR _ _ ⟨w, fi, rfl, by simp [T.get, q]⟩
theorem c52_i (J : CallF) (hm : isMat M = true) {H0 : Heap} {b v qc : Nat} {cs : List AV} (mx : MX H0 M b v cs) (gc : H0.get qc = .cells 1 M.length (gs (clsL M))) :
    Tr tbl J c52_l2 (fun s h => h = H0 ∧ s.get [] = .slice b 0 M.length v ∧ s.get [false, false] = .slice qc 0 M.length M.length ∧ s.get [true, false] = .nils ∧ s.get [false, true] = G ((0 : Nat) : Int)) (.exit 0) (fun s h => ∃ xo, NG H0 h xo (fnL M M.length) ∧ s.get [true, false] = xo) := by
  have h8 := isMat_n hm
  refine Tr.pre (P := fun s h => ∃ xo, NG H0 h xo (fnL M 0) ∧ s.get [] = .slice b 0 M.length v ∧ s.get [false, false] = .slice qc 0 M.length M.length ∧ s.get [true, false] = xo ∧ s.get [false, true] = G ((0 : Nat) : Int)) (fun s h q => ⟨.nils, by rw [q.1]; exact NG.nil H0, q.2⟩) ?_
  refine Tr.rounds (P := fun i s h => ∃ xo, NG H0 h xo (fnL M i) ∧ s.get [] = .slice b 0 M.length v ∧ s.get [false, false] = .slice qc 0 M.length M.length ∧ s.get [true, false] = xo ∧ s.get [false, true] = G i) (M := M.length) (fun i hi => ?_) ?_ (by simp) 0 (by omega)
  · refine Tr.w fun s1 H1 hp R kR => W.trim ?_
    obtain ⟨xo, ng, q⟩ := hp
    have gc1 := ng.k.at gc (by simp) id
    have l1 := c52_x (i := i) (xo := xo) J hm (mx.kp ng.k) gc1
    have ci : (gs (clsL M))[i]? = some (G (clN M i)) := gl_at _ hi
    have ci' := getI ci
    have fi0 : FI M i 0 0 ((clN M i : Int) == i) := FI.init (by
      rw [beq_iff_eq]; omega)
    obtain ⟨x1, e, h2, q1, q2, ng2, _⟩ := ng.app H1.size (i : Int) (by have := fnL_len (M := M) i; omega)
    have f1 := app1_at H1 (G (i : Int))
    have hN : ∀ w, FI M i M.length 0 w → (w = true ↔ finP M i) := fun w l => l.done hm
    have n0 : ¬ finP M i → NG H0 H1 xo (fnL M (i + 1)) := fun h => by rw [fnL_f h]; exact ng
    have n1 : finP M i → NG H0 h2 x1 (fnL M (i + 1)) := fun h => by rw [fnL_t h]; exact ng2
    clear mx ng ng2
    generalize clN M i = z at *
    generalize gs (clsL M) = ccs at *
    generalize hbz : ((z : Int) == i) = bz at *
    refine W.assoc ?_
    refine W.seq (W.chunk ?_)
    simp (disch := first | omega | exact getEq rfl | exact getO0 | exact Nat.le_of_ble_eq_true rfl) [c52_o4, app_growP, app_noneP, plus_N, plus_at0, put_plus0, put_plus1, upd_N, upd_size, q]
    refine W.seq (W.chunk ?_)
    simp (disch := first | omega | exact getEq rfl | exact getO0 | exact Nat.le_of_ble_eq_true rfl) [app_growP, app_noneP, plus_N, plus_at0, put_plus0, put_plus1, upd_N, upd_size, q]
    refine W.seq (W.block ?_)
    refine W.seq (W.chunk ?_)
    simp (disch := first | omega | exact getEq rfl | exact getO0 | exact Nat.le_of_ble_eq_true rfl) [c52_o5, app_growP, app_noneP, plus_N, plus_at0, put_plus0, put_plus1, upd_N, upd_size, q, gc1, ci, ci', hbz]
    refine W.assoc ?_
    refine W.seq (W.chunk ?_)
    simp (disch := first | omega | exact getEq rfl | exact getO0 | exact Nat.le_of_ble_eq_true rfl) [c52_o6, app_growP, app_noneP, plus_N, plus_at0, put_plus0, put_plus1, upd_N, upd_size, q]
    refine W.seq (W.block ?_)
    refine W.use (l1) (by simp (disch := first | omega | exact getEq rfl | exact getO0 | exact Nat.le_of_ble_eq_true rfl) [app_growP, app_noneP, plus_N, plus_at0, put_plus0, put_plus1, upd_N, upd_size, q, fi0]) fun s1 H1 hp => ?_
    obtain ⟨w, fi, rfl, q⟩ := hp
    try simp only [thenW_n, thenW_e, thenW_r, blkW_n, blkW_e, blkW_r, if_true]
    have hw := hN w fi
    cases w
    refine W.seq (W.chunk ?_)
    simp (disch := first | omega | exact getEq rfl | exact getO0 | exact Nat.le_of_ble_eq_true rfl) [c52_o13, app_growP, app_noneP, plus_N, plus_at0, put_plus0, put_plus1, upd_N, upd_size, q]
    refine W.chunk ?_
    simp (disch := first | omega | exact getEq rfl | exact getO0 | exact Nat.le_of_ble_eq_true rfl) [c52_o14, app_growP, app_noneP, plus_N, plus_at0, put_plus0, put_plus1, upd_N, upd_size, q]
    refine W.chunk ?_
    simp (disch := first | omega | exact getEq rfl | exact getO0 | exact Nat.le_of_ble_eq_true rfl) [c52_o15, app_growP, app_noneP, plus_N, plus_at0, put_plus0, put_plus1, upd_N, upd_size, q]
    · exact kR _ _ ⟨_, n0 (fun h => by cases hw.2 h), by simp [T.get, q]⟩
    refine W.seq (W.chunk ?_)
    simp (disch := first | omega | exact getEq rfl | exact getO0 | exact Nat.le_of_ble_eq_true rfl) [c52_o13, app_growP, app_noneP, plus_N, plus_at0, put_plus0, put_plus1, upd_N, upd_size, q]
    refine W.cond (v := true) (by simp (disch := first | omega | exact getEq rfl | exact getO0 | exact Nat.le_of_ble_eq_true rfl) [app_growP, app_noneP, plus_N, plus_at0, put_plus0, put_plus1, upd_N, upd_size, q]) ?_
    simp only [if_true, if_false, Bool.false_eq_true]
    refine W.chunk ?_
    simp (disch := first | omega | exact getEq rfl | exact getO0 | exact Nat.le_of_ble_eq_true rfl) [c52_o14, app_growP, app_noneP, plus_N, plus_at0, put_plus0, put_plus1, upd_N, upd_size, q, elems, rdOf, f1, q1, q2]
    refine W.chunk ?_
    simp (disch := first | omega | exact getEq rfl | exact getO0 | exact Nat.le_of_ble_eq_true rfl) [c52_o15, app_growP, app_noneP, plus_N, plus_at0, put_plus0, put_plus1, upd_N, upd_size, q]
    exact kR _ _ ⟨_, n1 (hw.1 rfl), by simp [T.get, q]⟩
  · refine Tr.w fun s1 H1 hp R kR => W.trim ?_
    obtain ⟨xo, ng, q⟩ := hp
    clear mx
    refine W.assoc ?_
    refine W.seq (W.chunk ?_)
    simp (disch := first | omega | exact getEq rfl | exact getO0 | exact Nat.le_of_ble_eq_true rfl) [c52_o4, app_growP, app_noneP, plus_N, plus_at0, put_plus0, put_plus1, upd_N, upd_size, q]
    refine W.seq (W.chunk ?_)
    simp (disch := first | omega | exact getEq rfl | exact getO0 | exact Nat.le_of_ble_eq_true rfl) [app_growP, app_noneP, plus_N, plus_at0, put_plus0, put_plus1, upd_N, upd_size, q]
    exact kR _ _ ⟨_, ng, by simp [T.get, q]⟩
theorem c52_ok (J : CallF) (k50 : K50 J) (hJ : ∀ a h, J 52 a h = none) (h : Heap) {y : AV} (hy : MR h y M) (hm : isMat M = true) : ∃ v own, CallsTo tbl J 52 [y] h (v, own, false) ∧ NG h (h.plus own) v (fnL M M.length) := by
  refine Tr.fny (cf := c52) (e := .ret) (s := T.set .leaf [] y) (by decide) rfl (hJ _ _) rfl rfl (by simp) ?_
  have h8 := isMat_n hm
  have hy0 : MR (frameOf h) y M := hy.lo []
  obtain ⟨w, own, k50, nc⟩ := k50 (frameOf h) ⟨M, y⟩ hy0 hm
  simp only at k50 nc
  obtain ⟨qc, rfl, gc⟩ := nc.l.sl (by intro e; have h0 : (gs (clsL M)).length = M.length := gl_len _ _; rw [e] at h0; simp at h0; omega)
  rw [show (gs (clsL M)).length = M.length from gl_len _ _] at k50 gc
  obtain ⟨b, v, cs, rfl, mx⟩ := hy0.mx hm
  have kp : Kp (fun _ => False) (frameOf h) ((frameOf h).plus own) := Kp.plus _ _
  have l2 := c52_i J hm (mx.kp kp) gc
  clear nc mx hy hy0
  refine Tr.w fun s1 H1 hp R kR => ?_
  obtain ⟨rfl, rfl⟩ := hp
  have q : True := trivial
  refine W.seq (W.chunk ?_)
  simp (disch := first | omega | exact getEq rfl | exact getO0 | exact Nat.le_of_ble_eq_true rfl) [c52_o0, app_growP, app_noneP, plus_N, plus_at0, put_plus0, put_plus1, upd_N, upd_size, q]
  refine W.seq (W.chunk ?_)
  simp (disch := first | omega | exact getEq rfl | exact getO0 | exact Nat.le_of_ble_eq_true rfl) [c52_o1, app_growP, app_noneP, plus_N, plus_at0, put_plus0, put_plus1, upd_N, upd_size, q, k50, app_if, app_if']
  refine W.seq (W.chunk ?_)
  simp (disch := first | omega | exact getEq rfl | exact getO0 | exact Nat.le_of_ble_eq_true rfl) [c52_o2, app_growP, app_noneP, plus_N, plus_at0, put_plus0, put_plus1, upd_N, upd_size, q]
  refine W.assoc ?_
  refine W.seq (W.chunk ?_)
  simp (disch := first | omega | exact getEq rfl | exact getO0 | exact Nat.le_of_ble_eq_true rfl) [c52_o3, app_growP, app_noneP, plus_N, plus_at0, put_plus0, put_plus1, upd_N, upd_size, q]
  refine W.seq (W.block ?_)
  refine W.use (l2) (by simp (disch := first | omega | exact getEq rfl | exact getO0 | exact Nat.le_of_ble_eq_true rfl) [app_growP, app_noneP, plus_N, plus_at0, put_plus0, put_plus1, upd_N, upd_size, q]) fun s1 H1 hp => ?_
  obtain ⟨x, ng, q⟩ := hp
  try simp only [thenW_n, thenW_e, thenW_r, blkW_n, blkW_e, blkW_r, if_true]
  refine W.seq (W.chunk ?_)
  simp (disch := first | omega | exact getEq rfl | exact getO0 | exact Nat.le_of_ble_eq_true rfl) [c52_o16, app_growP, app_noneP, plus_N, plus_at0, put_plus0, put_plus1, upd_N, upd_size, q]
  refine W.ret ?_
  try simp only [thenW_n, thenW_e, thenW_r, blkW_n, blkW_e, blkW_r, if_true]
  exact kR _ _ ⟨[x], by simp [T.get, c52, evRess, evRes, q], (ng.base kp).fr0⟩
end
def Post52 (a : AM) (h : Heap) (v : AV) (own : List AObj) : Prop := NG h (h.plus own) v (fnL a.M a.M.length)
noncomputable def T29 : CallF := addK tbl T28 52 PreO Post52
theorem t29 : Sound Go.Proofs.Try.prog T29 := Sound.addK follows ok t28 (by decide) _ _
abbrev K52 (J : CallF) : Prop := ∀ (h : Heap) (a : AM), MR h a.y a.M → isMat a.M = true → ∃ v own, J 52 [a.y] h = some (v, own, false) ∧ NG h (h.plus own) v (fnL a.M a.M.length)
theorem k50_28 : K50 T28 := fun h a ha hm => by
  simp (disch := decide) only [T28, T27, T26, T25, T24, T23, addK_ne]
  exact k50 h a ha hm
theorem k52 : K52 T29 := fun h a ha hm => addK_some (Pre := PreO) (Post := Post52) (fun a args h hp => by
  obtain ⟨⟨hy, hm⟩, rfl⟩ := hp
  exact c52_ok T28 k50_28 (fun _ _ => by simp (disch := decide) only [T28, T27, T26, T25, T24, T23, T22, T21, T20, T19, T18, T17, T16, T15, T14, T13, T12, T11, T10, T9, T8, T7, T6, T5, T4, T3, T2, T1, R21, R20, R19, R18, R17, R16, R15, R14, R13, R12, R11, R10, R9, R8, R7, R6, R5, R4, R3, R2, R1, addI_ne, addX_ne, addV_ne, addK_ne]; rfl) h hy hm) a _ h ⟨⟨ha, hm⟩, rfl⟩
end Go.Proofs.Ytjeemgaoonapgaa.Ev
set_option linter.unusedVariables false
set_option linter.unusedSimpArgs false
namespace Go.Proofs.Ytjeemgaoonapgaa.Ev
open Go Go.AEv
theorem nodup_le {n : Nat} {P : List Nat} (nd : P.Nodup) (h : ∀ c ∈ P, c < n) : P.length ≤ n := by
  refine Nat.le_of_not_lt fun hl => ?_
  obtain ⟨i, j, h1, h2, h3⟩ := pigeon n (fun i => P.getD i 0) (fun i hi => by
    rw [List.getD_eq_getElem?_getD, List.getElem?_eq_getElem (by omega)]
    exact h _ (List.getElem_mem _))
  have hp := List.pairwise_iff_getElem.1 nd i j (by omega) (by omega) h1
  rw [List.getD_eq_getElem?_getD, List.getD_eq_getElem?_getD, List.getElem?_eq_getElem (by omega), List.getElem?_eq_getElem (by omega)] at h3
  exact hp h3
theorem nodup_snoc {P : List Nat} {c : Nat} (nd : P.Nodup) (h : c ∉ P) : (P ++ [c]).Nodup := by
  rw [List.nodup_append]
  refine ⟨nd, by simp, fun a ha b hb e => ?_⟩
  rw [List.mem_singleton] at hb
  subst hb; subst e
  exact h ha
section
variable {M : List (List Int)}
def rdy (M : List (List Int)) (P : List Nat) (c : Nat) : Prop := ∀ u v, 0 < ent M u v → clN M v = c → clN M u ≠ c → clN M u ∈ P
def cand (M : List (List Int)) (P : List Nat) (c : Nat) : Prop := clN M c = c ∧ c ∉ P ∧ rdy M P c
open Classical in
noncomputable def nxB (M : List (List Int)) (P : List Nat) : List Nat := if h : ∃ c, c < M.length ∧ cand M P c ∧ ∀ d, d < c → ¬ cand M P d then P ++ [Classical.choose h] else P
noncomputable def sqB (M : List (List Int)) : Nat → List Nat
  | 0 => []
  | k + 1 => nxB M (sqB M k)
theorem nxB_t {P : List Nat} {c : Nat} (h1 : c < M.length) (h2 : cand M P c) (h3 : ∀ d, d < c → ¬ cand M P d) : nxB M P = P ++ [c] := by
  have h : ∃ c, c < M.length ∧ cand M P c ∧ ∀ d, d < c → ¬ cand M P d := ⟨c, h1, h2, h3⟩
  unfold nxB
  rw [dif_pos h]
  obtain ⟨_, e2, e3⟩ := Classical.choose_spec h
  have : Classical.choose h = c := by
    rcases Nat.lt_trichotomy (Classical.choose h) c with l | l | l
    · exact absurd e2 (h3 _ l)
    · exact l
    · exact absurd h2 (e3 _ l)
  rw [this]
theorem nxB_f {P : List Nat} (h : ∀ c, c < M.length → ¬ cand M P c) : nxB M P = P := by
  unfold nxB
  exact dif_neg fun ⟨c, h1, h2, _⟩ => h c h1 h2
structure PB (M : List (List Int)) (P : List Nat) : Prop where
  e : P = sqB M P.length
  d : P.Nodup
  l : ∀ c ∈ P, c < M.length ∧ clN M c = c
theorem PB.nil : PB M [] := ⟨rfl, List.Pairwise.nil, fun c h => (by cases h)⟩
theorem PB.push {P : List Nat} (p : PB M P) {c : Nat} (h1 : c < M.length) (h2 : cand M P c) (h3 : ∀ d, d < c → ¬ cand M P d) : PB M (P ++ [c]) :=
  ⟨by
    rw [List.length_append]
    show P ++ [c] = nxB M (sqB M P.length)
    rw [← p.e, nxB_t h1 h2 h3], nodup_snoc p.d h2.2.1, fun d hd => by
    rcases List.mem_append.1 hd with q | q
    · exact p.l d q
    · rw [List.mem_singleton] at q; subst q; exact ⟨h1, h2.1⟩⟩
theorem PB.len {P : List Nat} (p : PB M P) : P.length ≤ M.length := nodup_le p.d fun c hc => (p.l c hc).1
noncomputable def seqB (M : List (List Int)) : List Nat := sqB M M.length
theorem PB.done {P : List Nat} (p : PB M P) (h : ∀ c, c < M.length → ¬ cand M P c) : P = seqB M := by
  have : ∀ d, sqB M (P.length + d) = P := fun d => by
    induction d with
    | zero => exact p.e.symm
    | succ d ih =>
      show nxB M (sqB M (P.length + d)) = P
      rw [ih, nxB_f h]
  have h2 := this (M.length - P.length)
  rw [show P.length + (M.length - P.length) = M.length by have := p.len; omega] at h2
  exact h2.symm
def cmL (M : List (List Int)) (c : Nat) : Nat → List Int
  | 0 => []
  | k + 1 => if clN M k = c then cmL M c k ++ [(k : Int)] else cmL M c k
theorem cmL_t {c k : Nat} (h : clN M k = c) : cmL M c (k + 1) = cmL M c k ++ [(k : Int)] := if_pos h
theorem cmL_f {c k : Nat} (h : ¬ clN M k = c) : cmL M c (k + 1) = cmL M c k := if_neg h
theorem cmL_len (c : Nat) : ∀ k, (cmL M c k).length ≤ k
  | 0 => Nat.le_refl _
  | k + 1 => by
    have := cmL_len c k
    by_cases h : clN M k = c
    · rw [cmL_t h]; simp; omega
    · rw [cmL_f h]; omega
theorem cmL_pos {c k : Nat} (h : clN M c = c) : c < k → cmL M c k ≠ [] := by
  induction k with
  | zero => intro q; omega
  | succ k ih =>
    intro q
    by_cases e : clN M k = c
    · rw [cmL_t e]; simp
    · rw [cmL_f e]
      exact ih (by
        rcases Nat.lt_or_ge c k with a | a
        · exact a
        · have : c = k := by omega
          subst this; exact absurd h e)
def bkC (M : List (List Int)) (P : List Nat) : List (List AV) := P.map fun c => gs (cmL M c M.length)
theorem bkC_s (P : List Nat) (c : Nat) : bkC M (P ++ [c]) = bkC M P ++ [gs (cmL M c M.length)] := by simp [bkC]
theorem bkC_len (P : List Nat) : (bkC M P).length = P.length := by simp [bkC]
structure PN (M : List (List Int)) (P L : List Nat) : Prop where
  d : L.Nodup
  m : ∀ u, u ∈ L ↔ u < M.length ∧ clN M u ∈ P
theorem PN.rdy (hm : isMat M = true) {P L : List Nat} (p : PN M P L) {c : Nat} : rdy M P c ↔ ∀ u v, 0 < ent M u v → clN M v = c → clN M u ≠ c → u ∈ L :=
  ⟨fun h u v e a b => (p.m u).2 ⟨(ent_lt hm e).1, h u v e a b⟩, fun h u v e a b => ((p.m u).1 (h u v e a b)).2⟩
theorem PN.lt {P L : List Nat} (p : PN M P L) : L.length ≤ M.length := nodup_le p.d fun c hc => ((p.m c).1 hc).1
theorem PN.full {P L : List Nat} (p : PN M P L) (h : ¬ L.length < M.length) {c : Nat} (hc : c < M.length) : ¬ cand M P c := fun ⟨a, b, _⟩ => by
  by_cases q : c ∈ L
  · have := ((p.m c).1 q).2; rw [a] at this; exact b this
  · have h2 := nodup_le (nodup_snoc p.d q) (fun x hx => by
      rcases List.mem_append.1 hx with y | y
      · exact ((p.m x).1 y).1
      · rw [List.mem_singleton] at y; rw [y]; exact hc)
    simp at h2
    omega
structure PK (M : List (List Int)) (P : List Nat) (c k : Nat) (L : List Nat) : Prop where
  d : L.Nodup
  m : ∀ u, u ∈ L ↔ u < M.length ∧ (clN M u ∈ P ∨ (clN M u = c ∧ u < k))
theorem PN.start {P L : List Nat} (p : PN M P L) (c : Nat) : PK M P c 0 L := ⟨p.d, fun u => by rw [p.m u]; simp⟩
theorem PK.skip {P L : List Nat} {c k : Nat} (p : PK M P c k L) (h : ¬ clN M k = c) : PK M P c (k + 1) L := ⟨p.d, fun u => by
  rw [p.m u]
  have : clN M u = c ∧ u < k + 1 ↔ clN M u = c ∧ u < k := ⟨fun ⟨a, b⟩ => ⟨a, by
    rcases Nat.lt_or_ge u k with x | x
    · exact x
    · have : u = k := by omega
      subst this; exact absurd a h⟩, fun ⟨a, b⟩ => ⟨a, by omega⟩⟩
  rw [this]⟩
theorem PK.take {P L : List Nat} {c k : Nat} (p : PK M P c k L) (hk : k < M.length) (h : clN M k = c) (hc : c ∉ P) : PK M P c (k + 1) (L ++ [k]) ∧ ins k L = L ++ [k] := by
  have hn : k ∉ L := fun q => by
    rcases ((p.m k).1 q).2 with a | ⟨_, a⟩
    · rw [h] at a; exact hc a
    · omega
  refine ⟨⟨nodup_snoc p.d hn, fun u => ?_⟩, if_neg hn⟩
  rw [List.mem_append, List.mem_singleton, p.m u]
  constructor
  · rintro (⟨a, b | ⟨b1, b2⟩⟩ | rfl)
    · exact ⟨a, .inl b⟩
    · exact ⟨a, .inr ⟨b1, by omega⟩⟩
    · exact ⟨hk, .inr ⟨h, by omega⟩⟩
  · rintro ⟨a, b | ⟨b1, b2⟩⟩
    · exact .inl ⟨a, .inl b⟩
    · by_cases e : u = k
      · exact .inr e
      · exact .inl ⟨a, .inr ⟨b1, by omega⟩⟩
theorem PK.done {P L : List Nat} {c : Nat} (p : PK M P c M.length L) : PN M (P ++ [c]) L := ⟨p.d, fun u => by
  rw [p.m u, List.mem_append, List.mem_singleton]
  exact ⟨fun ⟨a, b⟩ => ⟨a, b.imp id fun x => x.1⟩, fun ⟨a, b⟩ => ⟨a, b.imp id fun x => ⟨x, a⟩⟩⟩⟩
end
end Go.Proofs.Ytjeemgaoonapgaa.Ev
set_option linter.unusedVariables false
set_option linter.unusedSimpArgs false
namespace Go.Proofs.Ytjeemgaoonapgaa.Ev
open Go Go.AEv
attribute [local simp] evFunc initS evOps_c evTrim_c evSkip_c evExit_c evRet_c evSeq_c evCond_c evBlock_c evDraw_c runOps_n runOps_c exec_n exec_g pure1_c act AOpd.ev T.get T.set T.put evBin evUn forceT_eq forceV_eq forceL_eq evRess evRes one keep runFP_n runFP_c app_none AV.flats AV.flat came_some List.getElem?_cons_zero List.getElem?_cons_succ beqT wrapI idxI tdivI tmodI decT decF ibT ibF inT inF evScope_c if_pos if_neg Cm_some thenW_n thenW_e thenW_r blkW_n blkW_e blkW_r goI kn putAt AV.cells fillA loadA takeA mk Eff.isAll Eff.isNone Eff.commutes Eff.spares okPair apart eqAgg fits LK.fits allEq aveq eqk mmA
section
variable {M : List (List Int)}
def nb (M : List (List Int)) (L : List Nat) (c x y : Nat) : Prop := 0 < ent M x y → clN M y = c → clN M x ≠ c → x ∈ L
theorem c75_y (J : CallF) (hm : isMat M = true) {H : Heap} {qm qc qp c x : Nat} {L : List Nat} (gm : H.get qm = .cells 0 65 (matC M)) (gc : H.get qc = .cells 1 M.length (gs (clsL M))) (gp : H.get qp = .map (st L)) (hx : x < M.length) : ∀ d y, y + d = M.length →
    ((∀ z, y ≤ z → nb M L c x z) → Tr tbl J c75_l0 (fun s h => h = H ∧ s.get [false] = .slice qc 0 M.length M.length ∧ s.get [true] = .map qp ∧ s.get [false, false] = G c ∧ s.get [true, false] = .ptr qm 0 65 ∧ s.get [false, true, false] = G x ∧ s.get [true, false, true] = G M.length ∧ s.get [false, true, true] = G x ∧ s.get [false, true, false, false] = G M.length ∧ s.get [true, true, false, false] = G y) (.exit 2) (fun s h => h = H ∧ s.get [false] = .slice qc 0 M.length M.length ∧ s.get [true] = .map qp ∧ s.get [false, false] = G c ∧ s.get [true, false] = .ptr qm 0 65 ∧ s.get [true, false, true] = G M.length ∧ s.get [false, true, true] = G x)) ∧
    ((¬ ∀ z, y ≤ z → nb M L c x z) → Tr tbl J c75_l0 (fun s h => h = H ∧ s.get [false] = .slice qc 0 M.length M.length ∧ s.get [true] = .map qp ∧ s.get [false, false] = G c ∧ s.get [true, false] = .ptr qm 0 65 ∧ s.get [false, true, false] = G x ∧ s.get [true, false, true] = G M.length ∧ s.get [false, true, true] = G x ∧ s.get [false, true, false, false] = G M.length ∧ s.get [true, true, false, false] = G y) .ret (fun s h => s.get [true, false, false] = .bool false)) := by
  have h8 := isMat_n hm
  have lm := matC_len M
  intro d
  induction d with
  | zero =>
    intro y hy
    refine ⟨fun _ => Tr.out ?_ (by simp), fun n => absurd (fun z hz e => by have := (ent_lt hm e).2; omega) n⟩
    refine Tr.w fun s1 H1 hp R kR => W.trim ?_
    obtain ⟨rfl, q⟩ := hp
    refine W.seq (W.chunk ?_)
    simp (disch := first | omega | exact getEq rfl | exact getO0 | exact Nat.le_of_ble_eq_true rfl) [c75_o5, app_growP, app_noneP, plus_N, plus_at0, put_plus0, put_plus1, upd_N, upd_size, q]
    refine W.seq (W.chunk ?_)
    simp (disch := first | omega | exact getEq rfl | exact getO0 | exact Nat.le_of_ble_eq_true rfl) [app_growP, app_noneP, plus_N, plus_at0, put_plus0, put_plus1, upd_N, upd_size, q]
    exact kR _ _ (by simp [T.get, q])
  | succ d ih =>
    intro y hy
    obtain ⟨i1, i2⟩ := ih (y + 1) (by omega)
    have hyn : y < M.length := by omega
    have ga := mapA_at gp
    have ea := matC_at M (i := x) (j := y) (by omega) (by omega)
    have cx : (gs (clsL M))[x]? = some (G (clN M x)) := gl_at _ hx
    have cy : (gs (clsL M))[y]? = some (G (clN M y)) := gl_at _ hyn
    have ea' := getI ea
    have cx' := getI cx
    have cy' := getI cy
    have a0 := (ent_bd hm x y).1
    have fst := find_st x L
    have key : (∀ z, y ≤ z → nb M L c x z) ↔ nb M L c x y ∧ ∀ z, y + 1 ≤ z → nb M L c x z := ⟨fun h => ⟨h y (Nat.le_refl _), fun z hz => h z (by omega)⟩, fun ⟨a, b⟩ z hz => by
      rcases Nat.lt_or_ge y z with l | l
      · exact b z l
      · have : z = y := by omega
        subst this; exact a⟩
    rw [key]
    by_cases cc : 0 < ent M x y ∧ clN M y = c ∧ clN M x ≠ c ∧ x ∉ L
    · obtain ⟨c1, c2, c3, c4⟩ := cc
      refine ⟨fun h => absurd (h.1 c1 c2 c3) c4, fun _ => Tr.out ?_ (by simp)⟩
      rw [c2] at cy cy'
      rw [if_neg c4] at fst
      have c5 : ¬ (clN M x : Int) = c := by omega
      clear i1 i2 ih key c3
      generalize ent M x y = a at *
      generalize clN M x = u at *
      generalize st L = e1 at *
      generalize gs (clsL M) = ccs at *
      generalize matC M = cm at *
      refine Tr.w fun s1 H1 hp R kR => W.trim ?_
      obtain ⟨rfl, q⟩ := hp
      refine W.seq (W.chunk ?_)
      simp (disch := first | omega | exact getEq rfl | exact getO0 | exact Nat.le_of_ble_eq_true rfl) [c75_o5, app_growP, app_noneP, plus_N, plus_at0, put_plus0, put_plus1, upd_N, upd_size, q]
      refine W.seq (W.chunk ?_)
      simp (disch := first | omega | exact getEq rfl | exact getO0 | exact Nat.le_of_ble_eq_true rfl) [app_growP, app_noneP, plus_N, plus_at0, put_plus0, put_plus1, upd_N, upd_size, q]
      refine W.seq (W.block ?_)
      refine W.seq (W.chunk ?_)
      simp (disch := first | omega | exact getEq rfl | exact getO0 | exact Nat.le_of_ble_eq_true rfl) [c75_o6, app_growP, app_noneP, plus_N, plus_at0, put_plus0, put_plus1, upd_N, upd_size, q]
      refine W.seq (W.chunk ?_)
      simp (disch := first | omega | exact getEq rfl | exact getO0 | exact Nat.le_of_ble_eq_true rfl) [c75_o7, app_growP, app_noneP, plus_N, plus_at0, put_plus0, put_plus1, upd_N, upd_size, q, gm, gc, lm, ea, ea', cx, cx', cy, cy', ga, fst, c5]
      refine W.chunk ?_
      simp (disch := first | omega | exact getEq rfl | exact getO0 | exact Nat.le_of_ble_eq_true rfl) [c75_o8, app_growP, app_noneP, plus_N, plus_at0, put_plus0, put_plus1, upd_N, upd_size, q]
      exact kR _ _ (by simp [T.get, q])
    · have h0 : nb M L c x y := fun a b e => Classical.byContradiction fun n => cc ⟨a, b, e, n⟩
      have step : Tr tbl J (.trim [[false], [true], [false, false], [true, false], [false, true, false], [true, false, true], [false, true, true], [false, true, false, false], [true, true, false, false]] c75_b0) (fun s h => h = H ∧ s.get [false] = .slice qc 0 M.length M.length ∧ s.get [true] = .map qp ∧ s.get [false, false] = G c ∧ s.get [true, false] = .ptr qm 0 65 ∧ s.get [false, true, false] = G x ∧ s.get [true, false, true] = G M.length ∧ s.get [false, true, true] = G x ∧ s.get [false, true, false, false] = G M.length ∧ s.get [true, true, false, false] = G y) .normal (fun s h => h = H ∧ s.get [false] = .slice qc 0 M.length M.length ∧ s.get [true] = .map qp ∧ s.get [false, false] = G c ∧ s.get [true, false] = .ptr qm 0 65 ∧ s.get [false, true, false] = G x ∧ s.get [true, false, true] = G M.length ∧ s.get [false, true, true] = G x ∧ s.get [false, true, false, false] = G M.length ∧ s.get [true, true, false, false] = G ((y + 1 : Nat) : Int)) := by
        clear i1 i2 ih key h0
        generalize ent M x y = a at *
        generalize clN M x = u at *
        generalize clN M y = w at *
        by_cases c1 : 0 < a
        · by_cases c2 : w = c
          · subst c2
            by_cases c3 : u = w
            · subst c3
              generalize st L = e1 at *
              generalize gs (clsL M) = ccs at *
              generalize matC M = cm at *
              refine Tr.w fun s1 H1 hp R kR => W.trim ?_
              obtain ⟨rfl, q⟩ := hp
              refine W.seq (W.chunk ?_)
              simp (disch := first | omega | exact getEq rfl | exact getO0 | exact Nat.le_of_ble_eq_true rfl) [c75_o5, app_growP, app_noneP, plus_N, plus_at0, put_plus0, put_plus1, upd_N, upd_size, q]
              refine W.seq (W.chunk ?_)
              simp (disch := first | omega | exact getEq rfl | exact getO0 | exact Nat.le_of_ble_eq_true rfl) [app_growP, app_noneP, plus_N, plus_at0, put_plus0, put_plus1, upd_N, upd_size, q]
              refine W.seq (W.block ?_)
              refine W.seq (W.chunk ?_)
              simp (disch := first | omega | exact getEq rfl | exact getO0 | exact Nat.le_of_ble_eq_true rfl) [c75_o6, app_growP, app_noneP, plus_N, plus_at0, put_plus0, put_plus1, upd_N, upd_size, q]
              refine W.seq (W.chunk ?_)
              simp (disch := first | omega | exact getEq rfl | exact getO0 | exact Nat.le_of_ble_eq_true rfl) [c75_o7, app_growP, app_noneP, plus_N, plus_at0, put_plus0, put_plus1, upd_N, upd_size, q, gm, gc, lm, ea, ea', cx, cx', cy, cy', ga]
              refine W.chunk ?_
              simp (disch := first | omega | exact getEq rfl | exact getO0 | exact Nat.le_of_ble_eq_true rfl) [c75_o8, app_growP, app_noneP, plus_N, plus_at0, put_plus0, put_plus1, upd_N, upd_size, q]
              refine W.chunk ?_
              simp (disch := first | omega | exact getEq rfl | exact getO0 | exact Nat.le_of_ble_eq_true rfl) [c75_o9, app_growP, app_noneP, plus_N, plus_at0, put_plus0, put_plus1, upd_N, upd_size, q]
              exact kR _ _ (by simp [T.get, q])
            · have c4 : x ∈ L := Classical.byContradiction fun n => cc ⟨c1, rfl, c3, n⟩
              rw [if_pos c4] at fst
              have c5 : ¬ (u : Int) = w := by omega
              generalize st L = e1 at *
              generalize gs (clsL M) = ccs at *
              generalize matC M = cm at *
              refine Tr.w fun s1 H1 hp R kR => W.trim ?_
              obtain ⟨rfl, q⟩ := hp
              refine W.seq (W.chunk ?_)
              simp (disch := first | omega | exact getEq rfl | exact getO0 | exact Nat.le_of_ble_eq_true rfl) [c75_o5, app_growP, app_noneP, plus_N, plus_at0, put_plus0, put_plus1, upd_N, upd_size, q]
              refine W.seq (W.chunk ?_)
              simp (disch := first | omega | exact getEq rfl | exact getO0 | exact Nat.le_of_ble_eq_true rfl) [app_growP, app_noneP, plus_N, plus_at0, put_plus0, put_plus1, upd_N, upd_size, q]
              refine W.seq (W.block ?_)
              refine W.seq (W.chunk ?_)
              simp (disch := first | omega | exact getEq rfl | exact getO0 | exact Nat.le_of_ble_eq_true rfl) [c75_o6, app_growP, app_noneP, plus_N, plus_at0, put_plus0, put_plus1, upd_N, upd_size, q]
              refine W.seq (W.chunk ?_)
              simp (disch := first | omega | exact getEq rfl | exact getO0 | exact Nat.le_of_ble_eq_true rfl) [c75_o7, app_growP, app_noneP, plus_N, plus_at0, put_plus0, put_plus1, upd_N, upd_size, q, gm, gc, lm, ea, ea', cx, cx', cy, cy', ga, fst, c5]
              refine W.chunk ?_
              simp (disch := first | omega | exact getEq rfl | exact getO0 | exact Nat.le_of_ble_eq_true rfl) [c75_o8, app_growP, app_noneP, plus_N, plus_at0, put_plus0, put_plus1, upd_N, upd_size, q]
              refine W.chunk ?_
              simp (disch := first | omega | exact getEq rfl | exact getO0 | exact Nat.le_of_ble_eq_true rfl) [c75_o9, app_growP, app_noneP, plus_N, plus_at0, put_plus0, put_plus1, upd_N, upd_size, q]
              exact kR _ _ (by simp [T.get, q])
          · have c5 : ¬ (w : Int) = c := by omega
            generalize st L = e1 at *
            generalize gs (clsL M) = ccs at *
            generalize matC M = cm at *
            refine Tr.w fun s1 H1 hp R kR => W.trim ?_
            obtain ⟨rfl, q⟩ := hp
            refine W.seq (W.chunk ?_)
            simp (disch := first | omega | exact getEq rfl | exact getO0 | exact Nat.le_of_ble_eq_true rfl) [c75_o5, app_growP, app_noneP, plus_N, plus_at0, put_plus0, put_plus1, upd_N, upd_size, q]
            refine W.seq (W.chunk ?_)
            simp (disch := first | omega | exact getEq rfl | exact getO0 | exact Nat.le_of_ble_eq_true rfl) [app_growP, app_noneP, plus_N, plus_at0, put_plus0, put_plus1, upd_N, upd_size, q]
            refine W.seq (W.block ?_)
            refine W.seq (W.chunk ?_)
            simp (disch := first | omega | exact getEq rfl | exact getO0 | exact Nat.le_of_ble_eq_true rfl) [c75_o6, app_growP, app_noneP, plus_N, plus_at0, put_plus0, put_plus1, upd_N, upd_size, q]
            refine W.seq (W.chunk ?_)
            simp (disch := first | omega | exact getEq rfl | exact getO0 | exact Nat.le_of_ble_eq_true rfl) [c75_o7, app_growP, app_noneP, plus_N, plus_at0, put_plus0, put_plus1, upd_N, upd_size, q, gm, gc, lm, ea, ea', cx, cx', cy, cy', ga, c5]
            refine W.chunk ?_
            simp (disch := first | omega | exact getEq rfl | exact getO0 | exact Nat.le_of_ble_eq_true rfl) [c75_o8, app_growP, app_noneP, plus_N, plus_at0, put_plus0, put_plus1, upd_N, upd_size, q]
            refine W.chunk ?_
            simp (disch := first | omega | exact getEq rfl | exact getO0 | exact Nat.le_of_ble_eq_true rfl) [c75_o9, app_growP, app_noneP, plus_N, plus_at0, put_plus0, put_plus1, upd_N, upd_size, q]
            exact kR _ _ (by simp [T.get, q])
        · generalize st L = e1 at *
          generalize gs (clsL M) = ccs at *
          generalize matC M = cm at *
          refine Tr.w fun s1 H1 hp R kR => W.trim ?_
          obtain ⟨rfl, q⟩ := hp
          refine W.seq (W.chunk ?_)
          simp (disch := first | omega | exact getEq rfl | exact getO0 | exact Nat.le_of_ble_eq_true rfl) [c75_o5, app_growP, app_noneP, plus_N, plus_at0, put_plus0, put_plus1, upd_N, upd_size, q]
          refine W.seq (W.chunk ?_)
          simp (disch := first | omega | exact getEq rfl | exact getO0 | exact Nat.le_of_ble_eq_true rfl) [app_growP, app_noneP, plus_N, plus_at0, put_plus0, put_plus1, upd_N, upd_size, q]
          refine W.seq (W.block ?_)
          refine W.seq (W.chunk ?_)
          simp (disch := first | omega | exact getEq rfl | exact getO0 | exact Nat.le_of_ble_eq_true rfl) [c75_o6, app_growP, app_noneP, plus_N, plus_at0, put_plus0, put_plus1, upd_N, upd_size, q]
          refine W.seq (W.chunk ?_)
          simp (disch := first | omega | exact getEq rfl | exact getO0 | exact Nat.le_of_ble_eq_true rfl) [c75_o7, app_growP, app_noneP, plus_N, plus_at0, put_plus0, put_plus1, upd_N, upd_size, q, gm, gc, lm, ea, ea', cx, cx', cy, cy', ga]
          refine W.chunk ?_
          simp (disch := first | omega | exact getEq rfl | exact getO0 | exact Nat.le_of_ble_eq_true rfl) [c75_o8, app_growP, app_noneP, plus_N, plus_at0, put_plus0, put_plus1, upd_N, upd_size, q]
          refine W.chunk ?_
          simp (disch := first | omega | exact getEq rfl | exact getO0 | exact Nat.le_of_ble_eq_true rfl) [c75_o9, app_growP, app_noneP, plus_N, plus_at0, put_plus0, put_plus1, upd_N, upd_size, q]
          exact kR _ _ (by simp [T.get, q])
      exact ⟨fun h => Tr.next step (i1 h.2), fun h => Tr.next step (i2 fun g => h ⟨h0, g⟩)⟩
theorem c75_x (J : CallF) (hm : isMat M = true) {H : Heap} {qm qc qp c : Nat} {L : List Nat} (gm : H.get qm = .cells 0 65 (matC M)) (gc : H.get qc = .cells 1 M.length (gs (clsL M))) (gp : H.get qp = .map (st L)) : ∀ d x, x + d = M.length →
    ((∀ z, x ≤ z → ∀ w, nb M L c z w) → Tr tbl J c75_l1 (fun s h => h = H ∧ s.get [false] = .slice qc 0 M.length M.length ∧ s.get [true] = .map qp ∧ s.get [false, false] = G c ∧ s.get [true, false] = .ptr qm 0 65 ∧ s.get [true, false, true] = G M.length ∧ s.get [false, true, true] = G x) (.exit 0) (fun s h => h = H)) ∧
    ((¬ ∀ z, x ≤ z → ∀ w, nb M L c z w) → Tr tbl J c75_l1 (fun s h => h = H ∧ s.get [false] = .slice qc 0 M.length M.length ∧ s.get [true] = .map qp ∧ s.get [false, false] = G c ∧ s.get [true, false] = .ptr qm 0 65 ∧ s.get [true, false, true] = G M.length ∧ s.get [false, true, true] = G x) .ret (fun s h => s.get [true, false, false] = .bool false)) := by
  have h8 := isMat_n hm
  have lm := matC_len M
  have e0 : (matC M)[0]? = some (G M.length) := rfl
  have e0' := getI e0
  intro d
  induction d with
  | zero =>
    intro x hx
    refine ⟨fun _ => Tr.out ?_ (by simp), fun n => absurd (fun z hz w e => by have := (ent_lt hm e).1; omega) n⟩
    refine Tr.w fun s1 H1 hp R kR => W.trim ?_
    obtain ⟨rfl, q⟩ := hp
    refine W.seq (W.chunk ?_)
    simp (disch := first | omega | exact getEq rfl | exact getO0 | exact Nat.le_of_ble_eq_true rfl) [c75_o2, app_growP, app_noneP, plus_N, plus_at0, put_plus0, put_plus1, upd_N, upd_size, q]
    refine W.seq (W.chunk ?_)
    simp (disch := first | omega | exact getEq rfl | exact getO0 | exact Nat.le_of_ble_eq_true rfl) [app_growP, app_noneP, plus_N, plus_at0, put_plus0, put_plus1, upd_N, upd_size, q]
    exact kR _ _ rfl
  | succ d ih =>
    intro x hx
    obtain ⟨i1, i2⟩ := ih (x + 1) (by omega)
    have hxn : x < M.length := by omega
    obtain ⟨j1, j2⟩ := c75_y (c := c) J hm gm gc gp hxn M.length 0 (by omega)
    have key : (∀ z, x ≤ z → ∀ w, nb M L c z w) ↔ (∀ z, 0 ≤ z → nb M L c x z) ∧ ∀ z, x + 1 ≤ z → ∀ w, nb M L c z w := ⟨fun h => ⟨fun z _ => h x (Nat.le_refl _) z, fun z hz => h z (by omega)⟩, fun ⟨a, b⟩ z hz => by
      rcases Nat.lt_or_ge x z with l | l
      · exact b z l
      · have : z = x := by omega
        subst this; exact fun w => a w (Nat.zero_le _)⟩
    rw [key]
    by_cases cc : ∀ z, 0 ≤ z → nb M L c x z
    · have l0 := j1 cc
      have step : Tr tbl J (.trim [[false], [true], [false, false], [true, false], [true, false, true], [false, true, true]] c75_b1) (fun s h => h = H ∧ s.get [false] = .slice qc 0 M.length M.length ∧ s.get [true] = .map qp ∧ s.get [false, false] = G c ∧ s.get [true, false] = .ptr qm 0 65 ∧ s.get [true, false, true] = G M.length ∧ s.get [false, true, true] = G x) .normal (fun s h => h = H ∧ s.get [false] = .slice qc 0 M.length M.length ∧ s.get [true] = .map qp ∧ s.get [false, false] = G c ∧ s.get [true, false] = .ptr qm 0 65 ∧ s.get [true, false, true] = G M.length ∧ s.get [false, true, true] = G ((x + 1 : Nat) : Int)) := by
        clear i1 i2 ih key j1 j2
        refine Tr.w fun s1 H1 hp R kR => W.trim ?_
        obtain ⟨rfl, q⟩ := hp
        refine W.seq (W.chunk ?_)
        simp (disch := first | omega | exact getEq rfl | exact getO0 | exact Nat.le_of_ble_eq_true rfl) [c75_o2, app_growP, app_noneP, plus_N, plus_at0, put_plus0, put_plus1, upd_N, upd_size, q]
        refine W.seq (W.chunk ?_)
        simp (disch := first | omega | exact getEq rfl | exact getO0 | exact Nat.le_of_ble_eq_true rfl) [app_growP, app_noneP, plus_N, plus_at0, put_plus0, put_plus1, upd_N, upd_size, q]
        refine W.seq (W.block ?_)
        refine W.seq (W.chunk ?_)
        simp (disch := first | omega | exact getEq rfl | exact getO0 | exact Nat.le_of_ble_eq_true rfl) [c75_o3, app_growP, app_noneP, plus_N, plus_at0, put_plus0, put_plus1, upd_N, upd_size, q]
        refine W.seq (W.chunk ?_)
        simp (disch := first | omega | exact getEq rfl | exact getO0 | exact Nat.le_of_ble_eq_true rfl) [c75_o4, app_growP, app_noneP, plus_N, plus_at0, put_plus0, put_plus1, upd_N, upd_size, q, gm, lm, e0, e0']
        refine W.block ?_
        refine W.use (l0) (by simp (disch := first | omega | exact getEq rfl | exact getO0 | exact Nat.le_of_ble_eq_true rfl) [app_growP, app_noneP, plus_N, plus_at0, put_plus0, put_plus1, upd_N, upd_size, q]) fun s1 H1 hp => ?_
        obtain ⟨rfl, q⟩ := hp
        try simp only [thenW_n, thenW_e, thenW_r, blkW_n, blkW_e, blkW_r, if_true]
        refine W.chunk ?_
        simp (disch := first | omega | exact getEq rfl | exact getO0 | exact Nat.le_of_ble_eq_true rfl) [c75_o10, app_growP, app_noneP, plus_N, plus_at0, put_plus0, put_plus1, upd_N, upd_size, q]
        exact kR _ _ (by simp [T.get, q])
      exact ⟨fun h => Tr.next step (i1 h.2), fun h => Tr.next step (i2 fun g => h ⟨cc, g⟩)⟩
    · have l0 := j2 cc
      refine ⟨fun h => absurd h.1 cc, fun _ => Tr.out ?_ (by simp)⟩
      clear i1 i2 ih key j1 j2
      refine Tr.w fun s1 H1 hp R kR => W.trim ?_
      obtain ⟨rfl, q⟩ := hp
      refine W.seq (W.chunk ?_)
      simp (disch := first | omega | exact getEq rfl | exact getO0 | exact Nat.le_of_ble_eq_true rfl) [c75_o2, app_growP, app_noneP, plus_N, plus_at0, put_plus0, put_plus1, upd_N, upd_size, q]
      refine W.seq (W.chunk ?_)
      simp (disch := first | omega | exact getEq rfl | exact getO0 | exact Nat.le_of_ble_eq_true rfl) [app_growP, app_noneP, plus_N, plus_at0, put_plus0, put_plus1, upd_N, upd_size, q]
      refine W.seq (W.block ?_)
      refine W.seq (W.chunk ?_)
      simp (disch := first | omega | exact getEq rfl | exact getO0 | exact Nat.le_of_ble_eq_true rfl) [c75_o3, app_growP, app_noneP, plus_N, plus_at0, put_plus0, put_plus1, upd_N, upd_size, q]
      refine W.seq (W.chunk ?_)
      simp (disch := first | omega | exact getEq rfl | exact getO0 | exact Nat.le_of_ble_eq_true rfl) [c75_o4, app_growP, app_noneP, plus_N, plus_at0, put_plus0, put_plus1, upd_N, upd_size, q, gm, lm, e0, e0']
      refine W.block ?_
      refine W.use (l0) (by simp (disch := first | omega | exact getEq rfl | exact getO0 | exact Nat.le_of_ble_eq_true rfl) [app_growP, app_noneP, plus_N, plus_at0, put_plus0, put_plus1, upd_N, upd_size, q]) fun s1 H1 hp => ?_
      obtain q := hp
      try simp only [thenW_n, thenW_e, thenW_r, blkW_n, blkW_e, blkW_r, if_true]
      exact kR _ _ hp
def rdQ (M : List (List Int)) (L : List Nat) (c : Nat) : Prop := ∀ u v, 0 < ent M u v → clN M v = c → clN M u ≠ c → u ∈ L
theorem rdQ_iff {L : List Nat} {c : Nat} : (∀ z, 0 ≤ z → ∀ w, nb M L c z w) ↔ rdQ M L c := ⟨fun h u v => h u (Nat.zero_le _) v, fun h z _ w => h z w⟩
open Classical in
theorem c75_ok (J : CallF) (hm : isMat M = true) (hJ : ∀ a h, J 75 a h = none) (h : Heap) {qc qp c : Nat} {L : List Nat} (gc : h.get qc = .cells 1 M.length (gs (clsL M))) (gp : h.get qp = .map (st L)) : CallsTo tbl J 75 [.agg (matC M), .slice qc 0 M.length M.length, .map qp, G c] h (.bool (decide (rdQ M L c)), [], false) := by
  refine Tr.fnv (cf := c75) (e := .ret) (s := T.set (T.set (T.set (T.set .leaf [] (.agg (matC M))) [false] (.slice qc 0 M.length M.length)) [true] (.map qp)) [false, false] (G c)) (by decide) rfl (hJ _ _) rfl rfl rfl (by simp) ?_
  have lm := matC_len M
  have h8 := isMat_n hm
  have et : (matC M).take 65 = matC M := List.take_of_length_le (by omega)
  have e0 : (matC M)[0]? = some (G M.length) := rfl
  have e0' := getI e0
  have fs := fr_size h
  have gm : ((frameOf h).plus [.cells 0 65 (matC M)]).get h.size = .cells 0 65 (matC M) := plus_at0 _ _ _ _ fs
  have gc1 : ((frameOf h).plus [.cells 0 65 (matC M)]).get qc = .cells 1 M.length (gs (clsL M)) := plus_keep _ (by rw [frame_get]; exact gc) (by simp)
  have gp1 : ((frameOf h).plus [.cells 0 65 (matC M)]).get qp = .map (st L) := plus_keep _ (by rw [frame_get]; exact gp) (by simp)
  obtain ⟨j1, j2⟩ := c75_x (c := c) J hm gm gc1 gp1 M.length 0 (by omega)
  rw [rdQ_iff] at j1 j2
  refine Tr.w fun s1 H1 hp R kR => ?_
  obtain ⟨rfl, rfl⟩ := hp
  have q : True := trivial
  by_cases cc : rdQ M L c
  · have l1 := j1 cc
    rw [decide_eq_true cc] at kR
    clear j1 j2
    generalize matC M = cm at *
    refine W.seq (W.chunk ?_)
    simp (disch := first | omega | exact getEq rfl | exact getO0 | exact Nat.le_of_ble_eq_true rfl) [c75_o0, app_growP, app_noneP, plus_N, plus_at0, put_plus0, put_plus1, upd_N, upd_size, q, fs, lm]
    refine W.assoc ?_
    refine W.seq (W.chunk ?_)
    simp (disch := first | omega | exact getEq rfl | exact getO0 | exact Nat.le_of_ble_eq_true rfl) [c75_o1, app_growP, app_noneP, plus_N, plus_at0, put_plus0, put_plus1, upd_N, upd_size, q, gm, lm, e0, e0']
    refine W.seq (W.block ?_)
    refine W.use (l1) (by simp (disch := first | omega | exact getEq rfl | exact getO0 | exact Nat.le_of_ble_eq_true rfl) [app_growP, app_noneP, plus_N, plus_at0, put_plus0, put_plus1, upd_N, upd_size, q]) fun s1 H1 hp => ?_
    obtain rfl := hp
    try simp only [thenW_n, thenW_e, thenW_r, blkW_n, blkW_e, blkW_r, if_true]
    refine W.seq (W.chunk ?_)
    simp (disch := first | omega | exact getEq rfl | exact getO0 | exact Nat.le_of_ble_eq_true rfl) [c75_o11, app_growP, app_noneP, plus_N, plus_at0, put_plus0, put_plus1, upd_N, upd_size, q]
    refine W.ret ?_
    try simp only [thenW_n, thenW_e, thenW_r, blkW_n, blkW_e, blkW_r, if_true]
    exact kR _ _ ⟨[.bool true], by simp [T.get, c75, evRess, evRes], rfl⟩
  · have l1 := j2 cc
    rw [decide_eq_false cc] at kR
    clear j1 j2
    generalize matC M = cm at *
    refine W.seq (W.chunk ?_)
    simp (disch := first | omega | exact getEq rfl | exact getO0 | exact Nat.le_of_ble_eq_true rfl) [c75_o0, app_growP, app_noneP, plus_N, plus_at0, put_plus0, put_plus1, upd_N, upd_size, q, fs, lm]
    refine W.assoc ?_
    refine W.seq (W.chunk ?_)
    simp (disch := first | omega | exact getEq rfl | exact getO0 | exact Nat.le_of_ble_eq_true rfl) [c75_o1, app_growP, app_noneP, plus_N, plus_at0, put_plus0, put_plus1, upd_N, upd_size, q, gm, lm, e0, e0']
    refine W.seq (W.block ?_)
    refine W.use (l1) (by simp (disch := first | omega | exact getEq rfl | exact getO0 | exact Nat.le_of_ble_eq_true rfl) [app_growP, app_noneP, plus_N, plus_at0, put_plus0, put_plus1, upd_N, upd_size, q]) fun s1 H1 hp => ?_
    obtain q := hp
    try simp only [thenW_n, thenW_e, thenW_r, blkW_n, blkW_e, blkW_r, if_true]
    exact kR _ _ ⟨[.bool false], by simp [T.get, c75, evRess, evRes, hp], rfl⟩
end
structure A75 where
  M : List (List Int)
  qc : Nat
  qp : Nat
  c : Nat
  L : List Nat
def Ok75 (a : A75) (h : Heap) : Prop := isMat a.M = true ∧ h.get a.qc = .cells 1 a.M.length (gs (clsL a.M)) ∧ h.get a.qp = .map (st a.L)
def Pre75 (a : A75) (args : List AV) (h : Heap) : Prop := Ok75 a h ∧ args = [.agg (matC a.M), .slice a.qc 0 a.M.length a.M.length, .map a.qp, G a.c]
open Classical in
def Post75 (a : A75) (h : Heap) (v : AV) (own : List AObj) : Prop := v = .bool (decide (rdQ a.M a.L a.c)) ∧ own = []
noncomputable def T30 : CallF := addK tbl T29 75 Pre75 Post75
theorem t30 : Sound Go.Proofs.Try.prog T30 := Sound.addK follows ok t29 (by decide) _ _
open Classical in
abbrev K75 (J : CallF) : Prop := ∀ (h : Heap) (a : A75), Ok75 a h → J 75 [.agg (matC a.M), .slice a.qc 0 a.M.length a.M.length, .map a.qp, G a.c] h = some (.bool (decide (rdQ a.M a.L a.c)), [], false)
theorem k75 : K75 T30 := fun h a ha => by
  obtain ⟨v, own, e, rfl, rfl⟩ := addK_some (tbl := tbl) (I := T29) (f := 75) (Pre := Pre75) (Post := Post75) (fun a args h hp => by
    obtain ⟨⟨hm, g1, g2⟩, rfl⟩ := hp
    exact ⟨_, _, c75_ok T29 hm (fun _ _ => by simp (disch := decide) only [T29, T28, T27, T26, T25, T24, T23, T22, T21, T20, T19, T18, T17, T16, T15, T14, T13, T12, T11, T10, T9, T8, T7, T6, T5, T4, T3, T2, T1, R21, R20, R19, R18, R17, R16, R15, R14, R13, R12, R11, R10, R9, R8, R7, R6, R5, R4, R3, R2, R1, addI_ne, addX_ne, addV_ne, addK_ne]; rfl) h g1 g2, rfl, rfl⟩) a _ h ⟨ha, rfl⟩
  exact e
end Go.Proofs.Ytjeemgaoonapgaa.Ev
set_option linter.unusedVariables false
set_option linter.unusedSimpArgs false
namespace Go.Proofs.Ytjeemgaoonapgaa.Ev
open Go Go.AEv
attribute [local simp] evFunc initS evOps_c evTrim_c evSkip_c evExit_c evRet_c evSeq_c evCond_c evBlock_c evDraw_c runOps_n runOps_c exec_n exec_g pure1_c act AOpd.ev T.get T.set T.put evBin evUn forceT_eq forceV_eq forceL_eq evRess evRes one keep runFP_n runFP_c app_none AV.flats AV.flat came_some List.getElem?_cons_zero List.getElem?_cons_succ beqT wrapI idxI tdivI tmodI decT decF ibT ibF inT inF evScope_c if_pos if_neg Cm_some thenW_n thenW_e thenW_r blkW_n blkW_e blkW_r goI kn putAt AV.cells fillA loadA takeA mk Eff.isAll Eff.isNone Eff.commutes Eff.spares okPair apart eqAgg fits LK.fits allEq aveq eqk mmA
theorem Kp.both {A B : Heap} {b : Nat} {X : AObj} (k : Kp (fun _ => False) A B) (hN : A.N ≤ b) (hb : b < A.size) : Kp (fun _ => False) (A.upd b X) (B.upd b X) := by
  have hs := k.size
  have hNB : B.N ≤ b := by rw [k.N]; exact hN
  refine ⟨k.lo, k.N, by rw [upd_size, upd_size]; exact hs, fun i hi hm => ?_⟩
  rw [upd_size] at hi
  by_cases e : i = b
  · subst e
    rw [upd_same _ _ _ hN hb, upd_same _ _ _ hNB (by omega)]
  · rw [upd_ne _ _ _ _ hN (fun q => e q.symm), upd_ne _ _ _ _ hNB (fun q => e q.symm)]
    exact k.get i hi hm
theorem NG.both {A B : Heap} {b : Nat} {X : AObj} {x : AV} {L : List Int} (t : NG A B x L) (hN : A.N ≤ b) (hb : b < A.size) : NG (A.upd b X) (B.upd b X) x L :=
  ⟨Kp.both t.k hN hb, fun q hq => by rw [upd_size]; exact t.x0 q hq, t.l.kp (Kp.upd (M := fun i => i = b) B b X (by rw [t.k.N]; exact hN) rfl) (fun q hq e => by have := t.x0 q hq; omega)⟩
theorem TB.updm {H0 H : Heap} {b : Nat} {X : AObj} {x : AV} {R : List (List AV)} {es : List (AV × AV)} (t : TB H0 H x R) (hN : H.N ≤ b) (hb : H0.size ≤ b) (g : H.get b = .map es) : TB H0 (H.upd b X) x R := by
  obtain ⟨rs, lv, hl, hr⟩ := t.r
  refine ⟨t.k.updn _ _ hN hb, t.x0, rs, lv.kp (Kp.upd (M := fun i => i = b) H b X hN rfl) (fun q hq e => ?_), hl, fun i r hi => ?_⟩
  · subst e
    rcases lv with ⟨rfl, _⟩ | ⟨b', rfl, g', _⟩
    · cases hq
    · cases hq; rw [g] at g'; cases g'
  · obtain ⟨cs, b', h1, h2, h3, h4, h5⟩ := hr i r hi
    refine ⟨cs, b', h1, h2, ?_, h4, h5⟩
    rw [upd_ne _ _ _ _ hN (fun e => by subst e; rw [g] at h3; cases h3)]
    exact h3
section
variable {M : List (List Int)}
structure S48 (Hb h : Heap) (M : List (List Int)) (P : List Nat) (c k : Nat) (x8 x10 : AV) : Prop where
  e : ∃ Hr L, TB Hb Hr x8 (bkC M P) ∧ Hr.get Hb.size = .map (st L) ∧ PK M P c k L ∧ NG Hr h x10 (cmL M c k)
theorem c48_m (J : CallF) (hm : isMat M = true) {Hb : Heap} {qm qc c : Nat} {P : List Nat} {x8 : AV} (gm : Hb.get qm = .cells 0 65 (matC M)) (gc : Hb.get qc = .cells 1 M.length (gs (clsL M))) (hc : c ∉ P) :
    Tr tbl J c48_l0 (fun s h => ∃ x10, S48 Hb h M P c 0 x8 x10 ∧ s.get [true, false] = .ptr qm 0 65 ∧ s.get [true, true] = .slice qc 0 M.length M.length ∧ s.get [false, false, false] = .map Hb.size ∧ s.get [true, false, false] = x8 ∧ s.get [false, true, false] = G c ∧ s.get [true, true, false] = x10 ∧ s.get [true, false, true, false, true] = G M.length ∧ s.get [false, true, true, false, true] = G ((0 : Nat) : Int)) (.exit 4)
      (fun s h => ∃ x10, S48 Hb h M P c M.length x8 x10 ∧ s.get [true, false] = .ptr qm 0 65 ∧ s.get [true, true] = .slice qc 0 M.length M.length ∧ s.get [false, false, false] = .map Hb.size ∧ s.get [true, false, false] = x8 ∧ s.get [true, true, false] = x10) := by
  have h8 := isMat_n hm
  refine Tr.rounds (P := fun k s h => ∃ x10, S48 Hb h M P c k x8 x10 ∧ s.get [true, false] = .ptr qm 0 65 ∧ s.get [true, true] = .slice qc 0 M.length M.length ∧ s.get [false, false, false] = .map Hb.size ∧ s.get [true, false, false] = x8 ∧ s.get [false, true, false] = G c ∧ s.get [true, true, false] = x10 ∧ s.get [true, false, true, false, true] = G M.length ∧ s.get [false, true, true, false, true] = G k) (M := M.length) (fun k hk => ?_) ?_ (by simp) 0 (by omega)
  · refine Tr.w fun s1 H1 hp R kR => W.trim ?_
    obtain ⟨x10, ⟨Hr, L, tb, gp, pk, ng⟩, q⟩ := hp
    have gc1 := ng.k.at (tb.k.at gc (by simp) id) (by simp) id
    have ck : (gs (clsL M))[k]? = some (G (clN M k)) := gl_at _ hk
    have ck' := getI ck
    by_cases cc : clN M k = c
    · obtain ⟨pk2, ei⟩ := pk.take hk cc hc
      obtain ⟨x1, e, h2, q1, q2, ng2, _⟩ := ng.app H1.size (k : Int) (by have := cmL_len (M := M) c k; omega)
      rw [← cmL_t cc] at ng2
      have f1 := app1_at H1 (G (k : Int))
      have gp2 := ng2.k.at gp (by simp) id
      have ga := mapA_at gp2
      have pst := put_st k L
      have hN : Hr.N ≤ Hb.size := by rw [tb.k.N]; unfold Heap.size; omega
      have hN2 : h2.N ≤ Hb.size := by rw [ng2.k.N]; exact hN
      have mp := mput_gen h2 Hb.size (st L) (st (ins k L)) hN2 gp2
      have hlt := get_lt gp (by simp)
      have ng3 := ng2.both (X := .map (st (ins k L))) hN hlt
      have tb3 := tb.updm (X := .map (st (ins k L))) hN (Nat.le_refl _) gp
      have gp3 := upd_same Hr Hb.size (.map (st (ins k L))) hN hlt
      rw [← ei] at pk2
      rw [cc] at ck ck'
      have fin : S48 Hb (h2.upd Hb.size (.map (st (ins k L)))) M P c (k + 1) x8 x1 := ⟨_, _, tb3, gp3, pk2, ng3⟩
      clear tb ng ng2 pk pk2 ng3 tb3 gp3 ei
      generalize ins k L = L2 at *
      generalize st L2 = e2 at *
      generalize st L = e1 at *
      generalize gs (clsL M) = ccs at *
      refine W.seq (W.chunk ?_)
      simp (disch := first | omega | exact getEq rfl | exact getO0 | exact Nat.le_of_ble_eq_true rfl) [c48_o14, app_growP, app_noneP, plus_N, plus_at0, put_plus0, put_plus1, upd_N, upd_size, q]
      refine W.seq (W.chunk ?_)
      simp (disch := first | omega | exact getEq rfl | exact getO0 | exact Nat.le_of_ble_eq_true rfl) [app_growP, app_noneP, plus_N, plus_at0, put_plus0, put_plus1, upd_N, upd_size, q]
      refine W.seq (W.block ?_)
      refine W.seq (W.chunk ?_)
      simp (disch := first | omega | exact getEq rfl | exact getO0 | exact Nat.le_of_ble_eq_true rfl) [c48_o15, app_growP, app_noneP, plus_N, plus_at0, put_plus0, put_plus1, upd_N, upd_size, q]
      refine W.seq (W.chunk ?_)
      simp (disch := first | omega | exact getEq rfl | exact getO0 | exact Nat.le_of_ble_eq_true rfl) [c48_o16, app_growP, app_noneP, plus_N, plus_at0, put_plus0, put_plus1, upd_N, upd_size, q, gc1, ck, ck']
      refine W.cond (v := true) (by simp (disch := first | omega | exact getEq rfl | exact getO0 | exact Nat.le_of_ble_eq_true rfl) [app_growP, app_noneP, plus_N, plus_at0, put_plus0, put_plus1, upd_N, upd_size, q]) ?_
      simp only [if_true, if_false, Bool.false_eq_true]
      refine W.seq (W.chunk ?_)
      simp (disch := first | omega | exact getEq rfl | exact getO0 | exact Nat.le_of_ble_eq_true rfl) [c48_o17, app_growP, app_noneP, plus_N, plus_at0, put_plus0, put_plus1, upd_N, upd_size, q, elems, rdOf, f1, q1, q2]
      refine W.chunk ?_
      simp (disch := first | omega | exact getEq rfl | exact getO0 | exact Nat.le_of_ble_eq_true rfl) [c48_o18, app_growP, app_noneP, plus_N, plus_at0, put_plus0, put_plus1, upd_N, upd_size, q, ga, pst, mp]
      refine W.chunk ?_
      simp (disch := first | omega | exact getEq rfl | exact getO0 | exact Nat.le_of_ble_eq_true rfl) [c48_o19, app_growP, app_noneP, plus_N, plus_at0, put_plus0, put_plus1, upd_N, upd_size, q]
      exact kR _ _ ⟨x1, fin, by simp [T.get, q]⟩
    · have fin : S48 Hb H1 M P c (k + 1) x8 x10 := ⟨Hr, L, tb, gp, pk.skip cc, by rw [cmL_f cc]; exact ng⟩
      have cc' : ¬ (clN M k : Int) = c := by omega
      clear tb ng pk gp
      generalize clN M k = u at *
      generalize gs (clsL M) = ccs at *
      refine W.seq (W.chunk ?_)
      simp (disch := first | omega | exact getEq rfl | exact getO0 | exact Nat.le_of_ble_eq_true rfl) [c48_o14, app_growP, app_noneP, plus_N, plus_at0, put_plus0, put_plus1, upd_N, upd_size, q]
      refine W.seq (W.chunk ?_)
      simp (disch := first | omega | exact getEq rfl | exact getO0 | exact Nat.le_of_ble_eq_true rfl) [app_growP, app_noneP, plus_N, plus_at0, put_plus0, put_plus1, upd_N, upd_size, q]
      refine W.seq (W.block ?_)
      refine W.seq (W.chunk ?_)
      simp (disch := first | omega | exact getEq rfl | exact getO0 | exact Nat.le_of_ble_eq_true rfl) [c48_o15, app_growP, app_noneP, plus_N, plus_at0, put_plus0, put_plus1, upd_N, upd_size, q]
      refine W.seq (W.chunk ?_)
      simp (disch := first | omega | exact getEq rfl | exact getO0 | exact Nat.le_of_ble_eq_true rfl) [c48_o16, app_growP, app_noneP, plus_N, plus_at0, put_plus0, put_plus1, upd_N, upd_size, q, gc1, ck, ck']
      refine W.chunk ?_
      simp (disch := first | omega | exact getEq rfl | exact getO0 | exact Nat.le_of_ble_eq_true rfl) [c48_o17, c48_o18, app_growP, app_noneP, plus_N, plus_at0, put_plus0, put_plus1, upd_N, upd_size, q]
      refine W.chunk ?_
      simp (disch := first | omega | exact getEq rfl | exact getO0 | exact Nat.le_of_ble_eq_true rfl) [c48_o19, app_growP, app_noneP, plus_N, plus_at0, put_plus0, put_plus1, upd_N, upd_size, q]
      exact kR _ _ ⟨x10, fin, by simp [T.get, q]⟩
  · refine Tr.w fun s1 H1 hp R kR => W.trim ?_
    obtain ⟨x10, s8, q⟩ := hp
    refine W.seq (W.chunk ?_)
    simp (disch := first | omega | exact getEq rfl | exact getO0 | exact Nat.le_of_ble_eq_true rfl) [c48_o14, app_growP, app_noneP, plus_N, plus_at0, put_plus0, put_plus1, upd_N, upd_size, q]
    refine W.seq (W.chunk ?_)
    simp (disch := first | omega | exact getEq rfl | exact getO0 | exact Nat.le_of_ble_eq_true rfl) [app_growP, app_noneP, plus_N, plus_at0, put_plus0, put_plus1, upd_N, upd_size, q]
    exact kR _ _ ⟨x10, s8, by simp [T.get, q]⟩
structure T48 (Hb h : Heap) (M : List (List Int)) (P L : List Nat) (x8 : AV) : Prop where
  tb : TB Hb h x8 (bkC M P)
  gp : h.get Hb.size = .map (st L)
  pn : PN M P L
theorem S48.init {Hb h : Heap} {P L : List Nat} {x8 : AV} (t : T48 Hb h M P L x8) (c : Nat) : S48 Hb h M P c 0 x8 .nils := ⟨h, L, t.tb, t.gp, t.pn.start c, NG.nil h⟩
theorem S48.done {Hb h : Heap} {P : List Nat} {c : Nat} {x8 x10 : AV} (hc : clN M c = c) (hcn : c < M.length) (hl : P.length ≤ 8) (t : S48 Hb h M P c M.length x8 x10) :
    ∃ b n, x10 = .slice b 0 n n ∧ ∃ L x1 e h2, appA (h.plus [.cells 1 1 [.slice b 0 n n]]) h.size none 1 24 1 [.slice b 0 n n] x8 = some (x1, e) ∧ Eff.app e (h.plus [.cells 1 1 [.slice b 0 n n]]) = some h2 ∧ T48 Hb h2 M (P ++ [c]) L x1 ∧ AV.cells x1 = some [x1] := by
  obtain ⟨Hr, L, tb, gp, pk, ng⟩ := t
  obtain ⟨b, rfl, gb⟩ := ng.l.sl (by
    intro e
    have : cmL M c M.length = [] := by simpa using e
    exact cmL_pos hc hcn this)
  have hb := ng.x0 b rfl
  have tb2 := tb.kp ng.k
  have hx : blk x8 ≠ some b := fun e => by
    obtain ⟨rs, lv, _⟩ := tb.r
    have := lv.lt e
    omega
  obtain ⟨x1, e, h2, q1, q2, q3, q4⟩ := tb2.app h.size gb ⟨hx, by have := tb.k.size; omega⟩ (by rw [bkC_len]; omega)
  rw [← bkC_s] at q3
  have gp1 := ng.k.at gp (by simp) id
  have gp2 : h2.get Hb.size = .map (st L) := by
    obtain ⟨rs, lv, hrl, _⟩ := tb2.r
    rw [bkC_len] at hrl
    obtain ⟨x1', e', h2', a1, a2, _, k3, _⟩ := app_v (h.plus [.cells 1 1 [.slice b 0 (gs (cmL M c M.length)).length (gs (cmL M c M.length)).length]]) h.size 24 (.slice b 0 (gs (cmL M c M.length)).length (gs (cmL M c M.length)).length) (lv.kp (Kp.plus (M := fun _ => False) h _) (fun _ _ => id)) (by omega)
    rw [q1] at a1
    cases a1
    rw [q2] at a2
    cases a2
    refine k3.at (plus_keep _ gp1 (by simp)) (by simp) (fun q => ?_)
    rcases lv with ⟨rfl, _⟩ | ⟨b', rfl, g', _⟩
    · cases q
    · cases q; rw [gp1] at g'; cases g'
  exact ⟨b, _, rfl, L, x1, e, h2, q1, q2, ⟨q3, gp2, pk.done⟩, q4⟩
theorem PN.cand (hm : isMat M = true) {P L : List Nat} (p : PN M P L) {c : Nat} (hc : c < M.length) : cand M P c ↔ clN M c = c ∧ c ∉ L ∧ rdQ M L c := by
  have : clN M c = c → (c ∈ L ↔ c ∈ P) := fun e => by rw [p.m c, e]; exact ⟨fun x => x.2, fun x => ⟨hc, x⟩⟩
  constructor
  · rintro ⟨a, b, r⟩
    exact ⟨a, fun x => b ((this a).1 x), (PN.rdy hm p).1 r⟩
  · rintro ⟨a, b, r⟩
    exact ⟨a, fun x => b ((this a).2 x), (PN.rdy hm p).2 r⟩
open Classical in
theorem c48_s (J : CallF) (k75 : K75 J) (hm : isMat M = true) {Hb H : Heap} {qm qc i : Nat} {P L : List Nat} {x8 : AV} (gm : Hb.get qm = .cells 0 65 (matC M)) (gc : Hb.get qc = .cells 1 M.length (gs (clsL M))) (t : T48 Hb H M P L x8) (hi : i < M.length) (hn : ¬ cand M P i) :
    Tr tbl J (.trim [[true, false], [true, true], [false, false, false], [true, false, false], [true, false, true, true], [false, true, true, true]] c48_b1) (fun s h => h = H ∧ s.get [true, false] = .ptr qm 0 65 ∧ s.get [true, true] = .slice qc 0 M.length M.length ∧ s.get [false, false, false] = .map Hb.size ∧ s.get [true, false, false] = x8 ∧ s.get [true, false, true, true] = G M.length ∧ s.get [false, true, true, true] = G i) .normal (fun s h => h = H ∧ s.get [true, false] = .ptr qm 0 65 ∧ s.get [true, true] = .slice qc 0 M.length M.length ∧ s.get [false, false, false] = .map Hb.size ∧ s.get [true, false, false] = x8 ∧ s.get [true, false, true, true] = G M.length ∧ s.get [false, true, true, true] = G ((i + 1 : Nat) : Int)) := by
  have h8 := isMat_n hm
  have lm := matC_len M
  have et : (matC M).take 65 = matC M := List.take_of_length_le (by omega)
  rw [t.pn.cand hm hi] at hn
  have gm1 := t.tb.k.at gm (by simp) id
  have gc1 := t.tb.k.at gc (by simp) id
  have gp := t.gp
  have ga := mapA_at gp
  have ci : (gs (clsL M))[i]? = some (G (clN M i)) := gl_at _ hi
  have ci' := getI ci
  have fst := find_st i L
  have k75' := k75 H ⟨M, qc, Hb.size, i, L⟩ ⟨hm, gc1, gp⟩
  simp only at k75'
  clear t
  by_cases c1 : clN M i = i
  · rw [c1] at ci ci'
    by_cases c2 : i ∈ L
    · rw [if_pos c2] at fst
      clear k75'
      generalize st L = e1 at *
      generalize gs (clsL M) = ccs at *
      refine Tr.w fun s1 H1 hp R kR => W.trim ?_
      obtain ⟨rfl, q⟩ := hp
      refine W.seq (W.chunk ?_)
      simp (disch := first | omega | exact getEq rfl | exact getO0 | exact Nat.le_of_ble_eq_true rfl) [c48_o9, app_growP, app_noneP, plus_N, plus_at0, put_plus0, put_plus1, upd_N, upd_size, q]
      refine W.seq (W.chunk ?_)
      simp (disch := first | omega | exact getEq rfl | exact getO0 | exact Nat.le_of_ble_eq_true rfl) [app_growP, app_noneP, plus_N, plus_at0, put_plus0, put_plus1, upd_N, upd_size, q]
      refine W.seq (W.block ?_)
      refine W.seq (W.chunk ?_)
      simp (disch := first | omega | exact getEq rfl | exact getO0 | exact Nat.le_of_ble_eq_true rfl) [c48_o10, app_growP, app_noneP, plus_N, plus_at0, put_plus0, put_plus1, upd_N, upd_size, q]
      refine W.assoc ?_
      refine W.seq (W.chunk ?_)
      simp (disch := first | omega | exact getEq rfl | exact getO0 | exact Nat.le_of_ble_eq_true rfl) [c48_o11, app_growP, app_noneP, plus_N, plus_at0, put_plus0, put_plus1, upd_N, upd_size, q, gc1, ci, ci', ga, fst]
      refine W.seq (W.chunk ?_)
      simp (disch := first | omega | exact getEq rfl | exact getO0 | exact Nat.le_of_ble_eq_true rfl) [app_growP, app_noneP, plus_N, plus_at0, put_plus0, put_plus1, upd_N, upd_size, q]
      refine W.chunk ?_
      simp (disch := first | omega | exact getEq rfl | exact getO0 | exact Nat.le_of_ble_eq_true rfl) [c48_o21, app_growP, app_noneP, plus_N, plus_at0, put_plus0, put_plus1, upd_N, upd_size, q]
      exact kR _ _ (by simp [T.get, q])
    · rw [if_neg c2] at fst
      have c3 : ¬ rdQ M L i := fun r => hn ⟨c1, c2, r⟩
      rw [decide_eq_false c3] at k75'
      clear hn
      generalize st L = e1 at *
      generalize gs (clsL M) = ccs at *
      generalize matC M = cm at *
      refine Tr.w fun s1 H1 hp R kR => W.trim ?_
      obtain ⟨rfl, q⟩ := hp
      refine W.seq (W.chunk ?_)
      simp (disch := first | omega | exact getEq rfl | exact getO0 | exact Nat.le_of_ble_eq_true rfl) [c48_o9, app_growP, app_noneP, plus_N, plus_at0, put_plus0, put_plus1, upd_N, upd_size, q]
      refine W.seq (W.chunk ?_)
      simp (disch := first | omega | exact getEq rfl | exact getO0 | exact Nat.le_of_ble_eq_true rfl) [app_growP, app_noneP, plus_N, plus_at0, put_plus0, put_plus1, upd_N, upd_size, q]
      refine W.seq (W.block ?_)
      refine W.seq (W.chunk ?_)
      simp (disch := first | omega | exact getEq rfl | exact getO0 | exact Nat.le_of_ble_eq_true rfl) [c48_o10, app_growP, app_noneP, plus_N, plus_at0, put_plus0, put_plus1, upd_N, upd_size, q]
      refine W.assoc ?_
      refine W.seq (W.chunk ?_)
      simp (disch := first | omega | exact getEq rfl | exact getO0 | exact Nat.le_of_ble_eq_true rfl) [c48_o11, app_growP, app_noneP, plus_N, plus_at0, put_plus0, put_plus1, upd_N, upd_size, q, gc1, ci, ci', ga, fst, gm1, et, lm, k75', app_if, app_if']
      refine W.seq (W.chunk ?_)
      simp (disch := first | omega | exact getEq rfl | exact getO0 | exact Nat.le_of_ble_eq_true rfl) [app_growP, app_noneP, plus_N, plus_at0, put_plus0, put_plus1, upd_N, upd_size, q]
      refine W.chunk ?_
      simp (disch := first | omega | exact getEq rfl | exact getO0 | exact Nat.le_of_ble_eq_true rfl) [c48_o21, app_growP, app_noneP, plus_N, plus_at0, put_plus0, put_plus1, upd_N, upd_size, q]
      exact kR _ _ (by simp [T.get, q])
  · have c1' : ¬ (clN M i : Int) = i := by omega
    clear k75' fst hn
    generalize clN M i = u at *
    generalize gs (clsL M) = ccs at *
    refine Tr.w fun s1 H1 hp R kR => W.trim ?_
    obtain ⟨rfl, q⟩ := hp
    refine W.seq (W.chunk ?_)
    simp (disch := first | omega | exact getEq rfl | exact getO0 | exact Nat.le_of_ble_eq_true rfl) [c48_o9, app_growP, app_noneP, plus_N, plus_at0, put_plus0, put_plus1, upd_N, upd_size, q]
    refine W.seq (W.chunk ?_)
    simp (disch := first | omega | exact getEq rfl | exact getO0 | exact Nat.le_of_ble_eq_true rfl) [app_growP, app_noneP, plus_N, plus_at0, put_plus0, put_plus1, upd_N, upd_size, q]
    refine W.seq (W.block ?_)
    refine W.seq (W.chunk ?_)
    simp (disch := first | omega | exact getEq rfl | exact getO0 | exact Nat.le_of_ble_eq_true rfl) [c48_o10, app_growP, app_noneP, plus_N, plus_at0, put_plus0, put_plus1, upd_N, upd_size, q]
    refine W.assoc ?_
    refine W.seq (W.chunk ?_)
    simp (disch := first | omega | exact getEq rfl | exact getO0 | exact Nat.le_of_ble_eq_true rfl) [c48_o11, app_growP, app_noneP, plus_N, plus_at0, put_plus0, put_plus1, upd_N, upd_size, q, gc1, ci, ci', c1']
    refine W.seq (W.chunk ?_)
    simp (disch := first | omega | exact getEq rfl | exact getO0 | exact Nat.le_of_ble_eq_true rfl) [app_growP, app_noneP, plus_N, plus_at0, put_plus0, put_plus1, upd_N, upd_size, q]
    refine W.chunk ?_
    simp (disch := first | omega | exact getEq rfl | exact getO0 | exact Nat.le_of_ble_eq_true rfl) [c48_o21, app_growP, app_noneP, plus_N, plus_at0, put_plus0, put_plus1, upd_N, upd_size, q]
    exact kR _ _ (by simp [T.get, q])
open Classical in
theorem c48_f (J : CallF) (k75 : K75 J) (hm : isMat M = true) {Hb H : Heap} {qm qc c : Nat} {P L : List Nat} {x8 : AV} (gm : Hb.get qm = .cells 0 65 (matC M)) (gc : Hb.get qc = .cells 1 M.length (gs (clsL M))) (t : T48 Hb H M P L x8) (hP : P.length ≤ 8) (hi : c < M.length) (hn : cand M P c) :
    Tr tbl J (.trim [[true, false], [true, true], [false, false, false], [true, false, false], [true, false, true, true], [false, true, true, true]] c48_b1) (fun s h => h = H ∧ s.get [true, false] = .ptr qm 0 65 ∧ s.get [true, true] = .slice qc 0 M.length M.length ∧ s.get [false, false, false] = .map Hb.size ∧ s.get [true, false, false] = x8 ∧ s.get [true, false, true, true] = G M.length ∧ s.get [false, true, true, true] = G c) (.exit 1) (fun s h => ∃ L' x8', T48 Hb h M (P ++ [c]) L' x8' ∧ s.get [true, false] = .ptr qm 0 65 ∧ s.get [true, true] = .slice qc 0 M.length M.length ∧ s.get [false, false, false] = .map Hb.size ∧ s.get [true, false, false] = x8') := by
  have h8 := isMat_n hm
  have lm := matC_len M
  have et : (matC M).take 65 = matC M := List.take_of_length_le (by omega)
  have e0 : (matC M)[0]? = some (G M.length) := rfl
  have e0' := getI e0
  have l0 := c48_m (P := P) (c := c) (x8 := x8) J hm gm gc hn.2.1
  obtain ⟨c1, c2, c3⟩ := (t.pn.cand hm hi).1 hn
  have gm1 := t.tb.k.at gm (by simp) id
  have gc1 := t.tb.k.at gc (by simp) id
  have gp := t.gp
  have ga := mapA_at gp
  have ci : (gs (clsL M))[c]? = some (G (clN M c)) := gl_at _ hi
  have ci' := getI ci
  have fst := find_st c L
  have k75' := k75 H ⟨M, qc, Hb.size, c, L⟩ ⟨hm, gc1, gp⟩
  simp only at k75'
  rw [decide_eq_true c3] at k75'
  rw [if_neg c2] at fst
  rw [c1] at ci ci'
  have ex : ∃ x10, S48 Hb H M P c 0 x8 x10 ∧ AV.nils = x10 := ⟨_, S48.init t c, rfl⟩
  clear t hn c2 c3
  generalize st L = e1 at *
  generalize gs (clsL M) = ccs at *
  generalize matC M = cm at *
  refine Tr.w fun s1 H1 hp R kR => W.trim ?_
  obtain ⟨rfl, q⟩ := hp
  refine W.seq (W.chunk ?_)
  simp (disch := first | omega | exact getEq rfl | exact getO0 | exact Nat.le_of_ble_eq_true rfl) [c48_o9, app_growP, app_noneP, plus_N, plus_at0, put_plus0, put_plus1, upd_N, upd_size, q]
  refine W.seq (W.chunk ?_)
  simp (disch := first | omega | exact getEq rfl | exact getO0 | exact Nat.le_of_ble_eq_true rfl) [app_growP, app_noneP, plus_N, plus_at0, put_plus0, put_plus1, upd_N, upd_size, q]
  refine W.seq (W.block ?_)
  refine W.seq (W.chunk ?_)
  simp (disch := first | omega | exact getEq rfl | exact getO0 | exact Nat.le_of_ble_eq_true rfl) [c48_o10, app_growP, app_noneP, plus_N, plus_at0, put_plus0, put_plus1, upd_N, upd_size, q]
  refine W.assoc ?_
  refine W.seq (W.chunk ?_)
  simp (disch := first | omega | exact getEq rfl | exact getO0 | exact Nat.le_of_ble_eq_true rfl) [c48_o11, app_growP, app_noneP, plus_N, plus_at0, put_plus0, put_plus1, upd_N, upd_size, q, gc1, ci, ci', ga, fst, gm1, et, lm, k75', app_if, app_if']
  refine W.seq (W.chunk ?_)
  simp (disch := first | omega | exact getEq rfl | exact getO0 | exact Nat.le_of_ble_eq_true rfl) [app_growP, app_noneP, plus_N, plus_at0, put_plus0, put_plus1, upd_N, upd_size, q]
  refine W.seq (W.chunk ?_)
  simp (disch := first | omega | exact getEq rfl | exact getO0 | exact Nat.le_of_ble_eq_true rfl) [c48_o12, app_growP, app_noneP, plus_N, plus_at0, put_plus0, put_plus1, upd_N, upd_size, q]
  refine W.assoc ?_
  refine W.seq (W.chunk ?_)
  simp (disch := first | omega | exact getEq rfl | exact getO0 | exact Nat.le_of_ble_eq_true rfl) [c48_o13, app_growP, app_noneP, plus_N, plus_at0, put_plus0, put_plus1, upd_N, upd_size, q, gm1, lm, e0, e0']
  refine W.seq (W.block ?_)
  refine W.use (l0) (by simp (disch := first | omega | exact getEq rfl | exact getO0 | exact Nat.le_of_ble_eq_true rfl) [app_growP, app_noneP, plus_N, plus_at0, put_plus0, put_plus1, upd_N, upd_size, q, ex]) fun s1 H1 hp => ?_
  obtain ⟨x10, s8, q⟩ := hp
  try simp only [thenW_n, thenW_e, thenW_r, blkW_n, blkW_e, blkW_r, if_true]
  obtain ⟨b, n, rfl, L2, x1, e, h2, q1, q2, t2, q3⟩ := s8.done c1 hi hP
  have f1 := app1_at H1 (.slice b 0 n n)
  refine W.seq (W.chunk ?_)
  simp (disch := first | omega | exact getEq rfl | exact getO0 | exact Nat.le_of_ble_eq_true rfl) [c48_o20, app_growP, app_noneP, plus_N, plus_at0, put_plus0, put_plus1, upd_N, upd_size, q, elems, rdOf, f1, q1, q2]
  refine W.exit ?_
  try simp only [thenW_n, thenW_e, thenW_r, blkW_n, blkW_e, blkW_r, if_true]
  exact kR _ _ ⟨L2, x1, t2, by simp [T.get, q]⟩
theorem PB.find {P : List Nat} : ∀ k c, c < k → c < M.length → cand M P c → ∃ c0, c0 < M.length ∧ cand M P c0 ∧ ∀ e, e < c0 → ¬ cand M P e
  | 0, c, h, _, _ => by omega
  | k + 1, c, h1, h2, h3 => by
    by_cases q : ∃ e, e < c ∧ cand M P e
    · obtain ⟨e, a1, a3⟩ := q; exact PB.find k e (by omega) (by omega) a3
    · exact ⟨c, h2, h3, fun e a1 a2 => q ⟨e, a1, a2⟩⟩
theorem c48_no (J : CallF) (k75 : K75 J) (hm : isMat M = true) {Hb H : Heap} {qm qc : Nat} {P L : List Nat} {x8 : AV} (gm : Hb.get qm = .cells 0 65 (matC M)) (gc : Hb.get qc = .cells 1 M.length (gs (clsL M))) (t : T48 Hb H M P L x8) (hno : ∀ c, c < M.length → ¬ cand M P c) : ∀ d i, i + d = M.length →
    Tr tbl J c48_l1 (fun s h => h = H ∧ s.get [true, false] = .ptr qm 0 65 ∧ s.get [true, true] = .slice qc 0 M.length M.length ∧ s.get [false, false, false] = .map Hb.size ∧ s.get [true, false, false] = x8 ∧ s.get [true, false, true, true] = G M.length ∧ s.get [false, true, true, true] = G i) (.exit 2) (fun s h => h = H ∧ s.get [true, false, false] = x8) := by
  intro d
  induction d with
  | zero =>
    intro i hi
    refine Tr.out ?_ (by simp)
    refine Tr.w fun s1 H1 hp R kR => W.trim ?_
    obtain ⟨rfl, q⟩ := hp
    refine W.seq (W.chunk ?_)
    simp (disch := first | omega | exact getEq rfl | exact getO0 | exact Nat.le_of_ble_eq_true rfl) [c48_o9, app_growP, app_noneP, plus_N, plus_at0, put_plus0, put_plus1, upd_N, upd_size, q]
    refine W.seq (W.chunk ?_)
    simp (disch := first | omega | exact getEq rfl | exact getO0 | exact Nat.le_of_ble_eq_true rfl) [app_growP, app_noneP, plus_N, plus_at0, put_plus0, put_plus1, upd_N, upd_size, q]
    exact kR _ _ (by simp [T.get, q])
  | succ d ih =>
    intro i hi
    exact Tr.next (c48_s J k75 hm gm gc t (by omega) (hno i (by omega))) (ih (i + 1) (by omega))
theorem c48_yes (J : CallF) (k75 : K75 J) (hm : isMat M = true) {Hb H : Heap} {qm qc c : Nat} {P L : List Nat} {x8 : AV} (gm : Hb.get qm = .cells 0 65 (matC M)) (gc : Hb.get qc = .cells 1 M.length (gs (clsL M))) (t : T48 Hb H M P L x8) (hP : P.length ≤ 8) (hi : c < M.length) (hn : cand M P c) (hl : ∀ e, e < c → ¬ cand M P e) : ∀ d i, i + d = c →
    Tr tbl J c48_l1 (fun s h => h = H ∧ s.get [true, false] = .ptr qm 0 65 ∧ s.get [true, true] = .slice qc 0 M.length M.length ∧ s.get [false, false, false] = .map Hb.size ∧ s.get [true, false, false] = x8 ∧ s.get [true, false, true, true] = G M.length ∧ s.get [false, true, true, true] = G i) (.exit 1) (fun s h => ∃ L' x8', T48 Hb h M (P ++ [c]) L' x8' ∧ s.get [true, false] = .ptr qm 0 65 ∧ s.get [true, true] = .slice qc 0 M.length M.length ∧ s.get [false, false, false] = .map Hb.size ∧ s.get [true, false, false] = x8') := by
  intro d
  induction d with
  | zero =>
    intro i hi'
    obtain rfl : i = c := by omega
    exact Tr.out (c48_f J k75 hm gm gc t hP hi hn) (by simp)
  | succ d ih =>
    intro i hi'
    exact Tr.next (c48_s J k75 hm gm gc t (by omega) (hl i (by omega))) (ih (i + 1) (by omega))
theorem st_len (L : List Nat) : (st L).length = L.length := by simp [st]
theorem c48_end (J : CallF) (k75 : K75 J) (hm : isMat M = true) {Hb H : Heap} {qm qc : Nat} {P L : List Nat} {x8 : AV} (gm : Hb.get qm = .cells 0 65 (matC M)) (gc : Hb.get qc = .cells 1 M.length (gs (clsL M))) (pb : PB M P) (t : T48 Hb H M P L x8) (hno : ∀ c, c < M.length → ¬ cand M P c) :
    Tr tbl J c48_l2 (fun s h => h = H ∧ s.get [true, false] = .ptr qm 0 65 ∧ s.get [true, true] = .slice qc 0 M.length M.length ∧ s.get [false, false, false] = .map Hb.size ∧ s.get [true, false, false] = x8) (.exit 0) (fun s h => ∃ x8, TB Hb h x8 (bkC M (seqB M)) ∧ s.get [true, false, false] = x8) := by
  have h8 := isMat_n hm
  have lm := matC_len M
  have e0 : (matC M)[0]? = some (G M.length) := rfl
  have e0' := getI e0
  have gm1 := t.tb.k.at gm (by simp) id
  have ga := mapA_at t.gp
  have sl := st_len L
  have ln := t.pn.lt
  have l1 := c48_no J k75 hm gm gc t hno M.length 0 (by omega)
  have tb : TB Hb H x8 (bkC M (seqB M)) := by rw [← pb.done hno]; exact t.tb
  refine Tr.out ?_ (by simp)
  clear t
  by_cases c : L.length < M.length
  · refine Tr.w fun s1 H1 hp R kR => W.trim ?_
    obtain ⟨rfl, q⟩ := hp
    generalize st L = e1 at *
    generalize matC M = cm at *
    refine W.assoc ?_
    refine W.seq (W.chunk ?_)
    simp (disch := first | omega | exact getEq rfl | exact getO0 | exact Nat.le_of_ble_eq_true rfl) [c48_o7, app_growP, app_noneP, plus_N, plus_at0, put_plus0, put_plus1, upd_N, upd_size, q, gm1, lm, e0, e0', ga, sl]
    refine W.seq (W.chunk ?_)
    simp (disch := first | omega | exact getEq rfl | exact getO0 | exact Nat.le_of_ble_eq_true rfl) [app_growP, app_noneP, plus_N, plus_at0, put_plus0, put_plus1, upd_N, upd_size, q]
    refine W.block ?_
    refine W.assoc ?_
    refine W.seq (W.chunk ?_)
    simp (disch := first | omega | exact getEq rfl | exact getO0 | exact Nat.le_of_ble_eq_true rfl) [c48_o8, app_growP, app_noneP, plus_N, plus_at0, put_plus0, put_plus1, upd_N, upd_size, q, gm1, lm, e0, e0']
    refine W.seq (W.block ?_)
    refine W.use (l1) (by simp (disch := first | omega | exact getEq rfl | exact getO0 | exact Nat.le_of_ble_eq_true rfl) [app_growP, app_noneP, plus_N, plus_at0, put_plus0, put_plus1, upd_N, upd_size, q]) fun s1 H1 hp => ?_
    obtain ⟨rfl, q⟩ := hp
    try simp only [thenW_n, thenW_e, thenW_r, blkW_n, blkW_e, blkW_r, if_true]
    refine W.exit ?_
    try simp only [thenW_n, thenW_e, thenW_r, blkW_n, blkW_e, blkW_r, if_true]
    exact kR _ _ ⟨x8, tb, by simp [T.get, q]⟩
  · refine Tr.w fun s1 H1 hp R kR => W.trim ?_
    obtain ⟨rfl, q⟩ := hp
    generalize st L = e1 at *
    generalize matC M = cm at *
    refine W.assoc ?_
    refine W.seq (W.chunk ?_)
    simp (disch := first | omega | exact getEq rfl | exact getO0 | exact Nat.le_of_ble_eq_true rfl) [c48_o7, app_growP, app_noneP, plus_N, plus_at0, put_plus0, put_plus1, upd_N, upd_size, q, gm1, lm, e0, e0', ga, sl]
    refine W.seq (W.chunk ?_)
    simp (disch := first | omega | exact getEq rfl | exact getO0 | exact Nat.le_of_ble_eq_true rfl) [app_growP, app_noneP, plus_N, plus_at0, put_plus0, put_plus1, upd_N, upd_size, q]
    exact kR _ _ ⟨x8, tb, by simp [T.get, q]⟩
theorem c48_l (J : CallF) (k75 : K75 J) (hm : isMat M = true) {Hb : Heap} {qm qc : Nat} (gm : Hb.get qm = .cells 0 65 (matC M)) (gc : Hb.get qc = .cells 1 M.length (gs (clsL M))) : ∀ d P, P.length + d = M.length → PB M P →
    Tr tbl J c48_l2 (fun s h => ∃ L x8, T48 Hb h M P L x8 ∧ s.get [true, false] = .ptr qm 0 65 ∧ s.get [true, true] = .slice qc 0 M.length M.length ∧ s.get [false, false, false] = .map Hb.size ∧ s.get [true, false, false] = x8) (.exit 0) (fun s h => ∃ x8, TB Hb h x8 (bkC M (seqB M)) ∧ s.get [true, false, false] = x8) := by
  have h8 := isMat_n hm
  have lm := matC_len M
  have e0 : (matC M)[0]? = some (G M.length) := rfl
  have e0' := getI e0
  intro d
  induction d with
  | zero =>
    intro P hd pb
    refine Tr.w fun s1 H1 hp R kR => ?_
    obtain ⟨L, x8, t, q⟩ := hp
    have hno : ∀ c, c < M.length → ¬ cand M P c := fun c hc hn => by
      obtain ⟨c0, c1, c2, c3⟩ := PB.find (c + 1) c (by omega) hc hn
      have := (pb.push c1 c2 c3).len
      simp at this
      omega
    exact W.use (c48_end J k75 hm gm gc pb t hno) ⟨rfl, q⟩ kR
  | succ d ih =>
    intro P hd pb
    refine Tr.w fun s1 H1 hp R kR => ?_
    obtain ⟨L, x8, t, q⟩ := hp
    by_cases hc : ∃ c, c < M.length ∧ cand M P c
    · obtain ⟨c, hc, hn⟩ := hc
      obtain ⟨c0, c1, c2, c3⟩ := PB.find (c + 1) c (by omega) hc hn
      have ih := ih (P ++ [c0]) (by simp; omega) (pb.push c1 c2 c3)
      have l1 := c48_yes J k75 hm gm gc t (by omega) c1 c2 c3 c0 0 (by omega)
      have gm1 := t.tb.k.at gm (by simp) id
      have ga := mapA_at t.gp
      have sl := st_len L
      have hl : L.length < M.length := Classical.byContradiction fun n => t.pn.full n c1 c2
      clear t
      refine W.loop (W.trim ?_)
      generalize st L = e1 at *
      generalize matC M = cm at *
      refine W.assoc ?_
      refine W.seq (W.chunk ?_)
      simp (disch := first | omega | exact getEq rfl | exact getO0 | exact Nat.le_of_ble_eq_true rfl) [c48_o7, app_growP, app_noneP, plus_N, plus_at0, put_plus0, put_plus1, upd_N, upd_size, q, gm1, lm, e0, e0', ga, sl]
      refine W.seq (W.chunk ?_)
      simp (disch := first | omega | exact getEq rfl | exact getO0 | exact Nat.le_of_ble_eq_true rfl) [app_growP, app_noneP, plus_N, plus_at0, put_plus0, put_plus1, upd_N, upd_size, q]
      refine W.block ?_
      refine W.assoc ?_
      refine W.seq (W.chunk ?_)
      simp (disch := first | omega | exact getEq rfl | exact getO0 | exact Nat.le_of_ble_eq_true rfl) [c48_o8, app_growP, app_noneP, plus_N, plus_at0, put_plus0, put_plus1, upd_N, upd_size, q, gm1, lm, e0, e0']
      refine W.seq (W.block ?_)
      refine W.use (l1) (by simp (disch := first | omega | exact getEq rfl | exact getO0 | exact Nat.le_of_ble_eq_true rfl) [app_growP, app_noneP, plus_N, plus_at0, put_plus0, put_plus1, upd_N, upd_size, q]) fun s1 H1 hp => ?_
      obtain ⟨L2, x2, t2, q⟩ := hp
      try simp only [thenW_n, thenW_e, thenW_r, blkW_n, blkW_e, blkW_r, if_true]
      exact W.use ih ⟨L2, x2, t2, by simp [T.get, q]⟩ kR
    · exact W.use (c48_end J k75 hm gm gc pb t fun c h1 h2 => hc ⟨c, h1, h2⟩) ⟨rfl, q⟩ kR
theorem c48_bad (J : CallF) (k54 : K54 J) (hJ : ∀ a h, J 48 a h = none) (h : Heap) {y : AV} (hy : MR h y M) (hm : isMat M = false) : CallsTo tbl J 48 [y] h (.tup [.nils, G 2], [], false) := by
  refine Tr.fnv (cf := c48) (e := .ret) (s := T.set .leaf [] y) (by decide) rfl (hJ _ _) rfl rfl rfl (by simp) ?_
  obtain ⟨cs, k54, hl, hc⟩ := k54 ⟨h.get, h.size, []⟩ y M (hy.lo [])
  have rp : (List.replicate 65 (AV.int .i64 0)).length = 65 := List.length_replicate
  have ep : putAt (List.replicate 65 (AV.int .i64 0)) 0 cs = cs := putAt_all _ _ (by omega)
  refine Tr.w fun s1 H1 hp R kR => ?_
  obtain ⟨rfl, rfl⟩ := hp
  have q : True := trivial
  generalize hZ : List.replicate 65 (AV.int .i64 0) = Z at *
  rw [hm] at k54
  refine W.seq (W.chunk ?_)
  simp (disch := first | omega | exact getEq rfl | exact getO0 | exact Nat.le_of_ble_eq_true rfl) [-List.reduceReplicate, c48_o0, size_mk, get_mk_lt, get_mk_ge, frameOf, Eff.app, Heap.setOwn, q]
  refine W.scope ?_
  refine W.seq (W.chunk ?_)
  simp (disch := first | omega | exact getEq rfl | exact getO0 | exact Nat.le_of_ble_eq_true rfl) [-List.reduceReplicate, c48_o1, size_mk, get_mk_lt, get_mk_ge, frameOf, Eff.app, Heap.setOwn, q, k54, hZ, ep, rp, hl, frameOf]
  refine W.assoc ?_
  refine W.seq (W.chunk ?_)
  simp (disch := first | omega | exact getEq rfl | exact getO0 | exact Nat.le_of_ble_eq_true rfl) [-List.reduceReplicate, c48_o2, size_mk, get_mk_lt, get_mk_ge, frameOf, Eff.app, Heap.setOwn, q]
  refine W.seq (W.chunk ?_)
  simp (disch := first | omega | exact getEq rfl | exact getO0 | exact Nat.le_of_ble_eq_true rfl) [-List.reduceReplicate, c48_o3, size_mk, get_mk_lt, get_mk_ge, frameOf, Eff.app, Heap.setOwn, q]
  exact kR _ _ ⟨[.nils, G 2], by simp [T.get, c48, evRess, evRes], rfl⟩
theorem TB.fr1 {h h' : Heap} {x y : AV} {L : List (List AV)} (t : TB (frameOf h) h' x L) : TB h (h.plus (if (one [x, y]).flat then [] else h'.own)) x L := by
  split
  · rename_i hf
    obtain ⟨rs, lv, hl, hr⟩ := t.r
    rcases lv with ⟨rfl, rfl⟩ | ⟨b, rfl, g, n⟩
    · have : L = [] := List.eq_nil_of_length_eq_zero hl.symm
      subst this
      exact (TB.nil h).kp (Kp.plus _ _)
    · exact absurd hf (by simp [one, AV.flat, AV.flats])
  · exact t.fr
theorem c48_ok (J : CallF) (k54 : K54 J) (k62 : K62 J) (k75 : K75 J) (hJ : ∀ a h, J 48 a h = none) (h : Heap) {y : AV} (hy : MR h y M) (hm : isMat M = true) : ∃ v own, CallsTo tbl J 48 [y] h (v, own, false) ∧ ∃ w, v = .tup [w, G 0] ∧ TB h (h.plus own) w (bkC M (seqB M)) := by
  refine Tr.fny (cf := c48) (e := .ret) (s := T.set .leaf [] y) (by decide) rfl (hJ _ _) rfl rfl (by simp) ?_
  have h8 := isMat_n hm
  obtain ⟨cs, k54, hl, hc⟩ := k54 (frameOf h) y M (hy.lo [])
  have rp : (List.replicate 65 (AV.int .i64 0)).length = 65 := List.length_replicate
  obtain rfl := hc hm
  have ep : putAt (List.replicate 65 (AV.int .i64 0)) 0 (matC M) = matC M := putAt_all _ _ (by omega)
  have et : (matC M).take 65 = matC M := List.take_of_length_le (by omega)
  have lm := matC_len M
  obtain ⟨w, own, k62, nc⟩ := k62 ((frameOf h).plus [.cells 0 65 (matC M)]) M hm
  obtain ⟨qc, rfl, gc⟩ := nc.l.sl (by intro e; have h0 : (gs (clsL M)).length = M.length := gl_len _ _; rw [e] at h0; simp at h0; omega)
  rw [show (gs (clsL M)).length = M.length from gl_len _ _] at k62 gc
  have kA : Kp (fun _ => False) (frameOf h) (((frameOf h).plus [.cells 0 65 (matC M)]).plus own) := (Kp.plus _ _).trans nc.k
  have gm : (((frameOf h).plus [.cells 0 65 (matC M)]).plus own).get h.size = .cells 0 65 (matC M) := nc.k.at (plus_at0 _ _ _ _ (fr_size h)) (by simp) id
  have gm0 : ((frameOf h).plus [.cells 0 65 (matC M)]).get h.size = .cells 0 65 (matC M) := plus_at0 _ _ _ _ (fr_size h)
  clear nc
  generalize hHa : ((frameOf h).plus [.cells 0 65 (matC M)]).plus own = Ha at *
  have l2 := c48_l J k75 hm gm gc M.length [] (by simp) PB.nil
  have pn0 : PN M [] [] := ⟨List.Pairwise.nil, fun u => by simp⟩
  have t0 : T48 Ha (Ha.plus [.map []]) M [] [] .nils := ⟨(TB.nil Ha).kp (Kp.plus _ _), plus_at0 Ha (.map []) [] _ rfl, pn0⟩
  have ex : ∃ L, T48 Ha (Ha.plus [.map []]) M [] L .nils := ⟨[], t0⟩
  have fs := fr_size h
  clear t0 pn0
  refine Tr.w fun s1 H1 hp R kR => ?_
  obtain ⟨rfl, rfl⟩ := hp
  have q : True := trivial
  generalize hZ : List.replicate 65 (AV.int .i64 0) = Z at *
  rw [hm] at k54
  refine W.seq (W.chunk ?_)
  simp (disch := first | omega | exact getEq rfl | exact getO0 | exact Nat.le_of_ble_eq_true rfl) [-List.reduceReplicate, c48_o0, app_growP, app_noneP, plus_N, plus_at0, put_plus0, put_plus1, upd_N, upd_size, q]
  refine W.scope ?_
  refine W.seq (W.chunk ?_)
  simp (disch := first | omega | exact getEq rfl | exact getO0 | exact Nat.le_of_ble_eq_true rfl) [-List.reduceReplicate, c48_o1, app_growP, app_noneP, plus_N, plus_at0, put_plus0, put_plus1, upd_N, upd_size, q, k54, hZ, ep, rp, hl, app_if, app_if', fs]
  refine W.assoc ?_
  refine W.seq (W.chunk ?_)
  simp (disch := first | omega | exact getEq rfl | exact getO0 | exact Nat.le_of_ble_eq_true rfl) [-List.reduceReplicate, c48_o2, app_growP, app_noneP, plus_N, plus_at0, put_plus0, put_plus1, upd_N, upd_size, q]
  refine W.seq (W.chunk ?_)
  simp (disch := first | omega | exact getEq rfl | exact getO0 | exact Nat.le_of_ble_eq_true rfl) [-List.reduceReplicate, c48_o3, app_growP, app_noneP, plus_N, plus_at0, put_plus0, put_plus1, upd_N, upd_size, q]
  refine W.seq (W.chunk ?_)
  simp (disch := first | omega | exact getEq rfl | exact getO0 | exact Nat.le_of_ble_eq_true rfl) [-List.reduceReplicate, c48_o4, app_growP, app_noneP, plus_N, plus_at0, put_plus0, put_plus1, upd_N, upd_size, q, fs, gm0, et, lm, k62, app_if, app_if', hHa]
  refine W.seq (W.chunk ?_)
  simp (disch := first | omega | exact getEq rfl | exact getO0 | exact Nat.le_of_ble_eq_true rfl) [-List.reduceReplicate, c48_o5, app_growP, app_noneP, plus_N, plus_at0, put_plus0, put_plus1, upd_N, upd_size, q]
  refine W.seq (W.chunk ?_)
  simp (disch := first | omega | exact getEq rfl | exact getO0 | exact Nat.le_of_ble_eq_true rfl) [-List.reduceReplicate, c48_o6, app_growP, app_noneP, plus_N, plus_at0, put_plus0, put_plus1, upd_N, upd_size, q]
  refine W.seq (W.skip ?_)
  try simp only [thenW_n, thenW_e, thenW_r, blkW_n, blkW_e, blkW_r, if_true]
  refine W.seq (W.block ?_)
  refine W.use (l2) (by simp (disch := first | omega | exact getEq rfl | exact getO0 | exact Nat.le_of_ble_eq_true rfl) [-List.reduceReplicate, app_growP, app_noneP, plus_N, plus_at0, put_plus0, put_plus1, upd_N, upd_size, q, ex]) fun s1 H1 hp => ?_
  obtain ⟨xo, tb, q⟩ := hp
  try simp only [thenW_n, thenW_e, thenW_r, blkW_n, blkW_e, blkW_r, if_true]
  refine W.seq (W.chunk ?_)
  simp (disch := first | omega | exact getEq rfl | exact getO0 | exact Nat.le_of_ble_eq_true rfl) [-List.reduceReplicate, c48_o22, app_growP, app_noneP, plus_N, plus_at0, put_plus0, put_plus1, upd_N, upd_size, q]
  refine W.ret ?_
  try simp only [thenW_n, thenW_e, thenW_r, blkW_n, blkW_e, blkW_r, if_true]
  exact kR _ _ ⟨[xo, G 0], by simp [T.get, c48, evRess, evRes, q], xo, rfl, (TB.base kA tb).fr1⟩
end
def Post48 (a : AM) (h : Heap) (v : AV) (own : List AObj) : Prop := (isMat a.M = false → v = .tup [.nils, G 2] ∧ own = []) ∧ (isMat a.M = true → ∃ w, v = .tup [w, G 0] ∧ TB h (h.plus own) w (bkC a.M (seqB a.M)))
noncomputable def T31 : CallF := addK tbl T30 48 PreM Post48
theorem t31 : Sound Go.Proofs.Try.prog T31 := Sound.addK follows ok t30 (by decide) _ _
abbrev K48 (J : CallF) : Prop := ∀ (h : Heap) (a : AM), MR h a.y a.M → ∃ v own, J 48 [a.y] h = some (v, own, false) ∧ Post48 a h v own
theorem k54_30 : K54 T30 := fun h y M hy => by
  simp (disch := decide) only [T30, T29, T28, T27, T26, T25, T24, T23, T22, T21, T20, T19, T18, T17, T16, T15, T14, T13, T12, T11, T10, T9, T8, T7, T6, T5, T4, T3, T2, T1, R21, R20, R19, R18, R17, R16, R15, R14, R13, R12, R11, R10, R9, R8, R7, R6, R5, R4, R3, R2, R1, addI_ne, addX_ne, addV_ne, addK_ne]
  exact k54 h y M hy
theorem k62_30 : K62 T30 := fun h M hm => by
  simp (disch := decide) only [T30, T29, T28, T27, T26, T25, T24, T23, T22, T21, T20, T19, T18, T17, T16, T15, T14, T13, T12, T11, T10, T9, T8, T7, addK_ne]
  exact k62 h M hm
theorem k48 : K48 T31 := fun h a ha => addK_some (Pre := PreM) (Post := Post48) (fun a args h hp => by
  obtain ⟨hy, rfl⟩ := hp
  have hn : ∀ a h, T30 48 a h = none := (fun _ _ => by simp (disch := decide) only [T30, T29, T28, T27, T26, T25, T24, T23, T22, T21, T20, T19, T18, T17, T16, T15, T14, T13, T12, T11, T10, T9, T8, T7, T6, T5, T4, T3, T2, T1, R21, R20, R19, R18, R17, R16, R15, R14, R13, R12, R11, R10, R9, R8, R7, R6, R5, R4, R3, R2, R1, addI_ne, addX_ne, addV_ne, addK_ne]; rfl)
  cases c : isMat a.M
  · exact ⟨_, _, c48_bad T30 k54_30 hn h hy c, fun _ => ⟨rfl, rfl⟩, fun q => by rw [c] at q; cases q⟩
  · obtain ⟨v, own, e, p⟩ := c48_ok T30 k54_30 k62_30 k75 hn h hy c
    exact ⟨v, own, e, fun q => (by rw [c] at q; cases q), fun _ => p⟩) a _ h ⟨ha, rfl⟩
end Go.Proofs.Ytjeemgaoonapgaa.Ev
set_option linter.unusedVariables false
set_option linter.unusedSimpArgs false
namespace Go.Proofs.Ytjeemgaoonapgaa.Ev
open Go Go.AEv
attribute [local simp] evFunc initS evOps_c evTrim_c evSkip_c evExit_c evRet_c evSeq_c evCond_c evBlock_c evDraw_c runOps_n runOps_c exec_n exec_g pure1_c act AOpd.ev T.get T.set T.put evBin evUn forceT_eq forceV_eq forceL_eq evRess evRes one keep runFP_n runFP_c app_none AV.flats AV.flat came_some List.getElem?_cons_zero List.getElem?_cons_succ beqT wrapI idxI tdivI tmodI decT decF ibT ibF inT inF evScope_c if_pos if_neg Cm_some thenW_n thenW_e thenW_r blkW_n blkW_e blkW_r goI kn putAt AV.cells fillA loadA takeA mk Eff.isAll Eff.isNone Eff.commutes Eff.spares okPair apart eqAgg fits LK.fits allEq aveq eqk mmA
theorem TB.both {A B : Heap} {b : Nat} {X : AObj} {x : AV} {R : List (List AV)} (t : TB A B x R) (hN : A.N ≤ b) (hb : b < A.size) : TB (A.upd b X) (B.upd b X) x R := by
  have hNB : B.N ≤ b := by rw [t.k.N]; exact hN
  obtain ⟨rs, lv, hl, hr⟩ := t.r
  refine ⟨Kp.both t.k hN hb, fun q hq => by rw [upd_size]; exact t.x0 q hq, rs, lv.kp (Kp.upd (M := fun i => i = b) B b X hNB rfl) (fun q hq e => by have := t.x0 q hq; omega), hl, fun i r hi => ?_⟩
  obtain ⟨cs, b', h1, h2, h3, h4, h5⟩ := hr i r hi
  refine ⟨cs, b', h1, h2, ?_, h4, by rw [upd_size]; exact h5⟩
  rw [upd_ne _ _ _ _ hNB (by omega)]
  exact h3
section
variable {M : List (List Int)}
def FB (M : List (List Int)) (P : List Nat) (i x y : Nat) (b : Bool) : Prop := b = true ↔ clN M i = i ∧ i ∉ P ∧ ∀ u v, (u < x ∨ (u = x ∧ v < y)) → 0 < ent M u v → clN M v = i → clN M u ≠ i → clN M u ∈ P
theorem FB.no {P : List Nat} {i x y x' y' : Nat} (l : FB M P i x y false) (h : x < x' ∨ (x = x' ∧ y ≤ y')) : FB M P i x' y' false :=
  ⟨fun e => (by cases e), fun ⟨a, a2, b⟩ => l.2 ⟨a, a2, fun u v c => b u v (by omega)⟩⟩
theorem FB.keep {P : List Nat} {i x y : Nat} (l : FB M P i x y true) (h : 0 < ent M x y → clN M y = i → clN M x ≠ i → clN M x ∈ P) : FB M P i x (y + 1) true :=
  ⟨fun e => ⟨(l.1 e).1, (l.1 e).2.1, fun u v c => by
    by_cases cc : u = x ∧ v = y
    · rw [cc.1, cc.2]; exact h
    · exact (l.1 e).2.2 u v (by omega)⟩, fun _ => rfl⟩
theorem FB.brk {P : List Nat} {i x y : Nat} (h1 : 0 < ent M x y) (h2 : clN M y = i) (h3 : clN M x ≠ i) (h4 : clN M x ∉ P) : FB M P i x (y + 1) false :=
  ⟨fun e => (by cases e), fun ⟨_, _, b⟩ => absurd (b x y (by omega) h1 h2 h3) h4⟩
theorem FB.nextx (hm : isMat M = true) {P : List Nat} {i x : Nat} {b : Bool} (l : FB M P i x M.length b) : FB M P i (x + 1) 0 b :=
  ⟨fun e => ⟨(l.1 e).1, (l.1 e).2.1, fun u v c e2 => (l.1 e).2.2 u v (by have := (ent_lt hm e2).2; omega) e2⟩, fun ⟨a, a2, c⟩ => l.2 ⟨a, a2, fun u v d => c u v (by omega)⟩⟩
theorem FB.done (hm : isMat M = true) {P : List Nat} {i : Nat} {b : Bool} (l : FB M P i M.length 0 b) : b = true ↔ cand M P i :=
  l.trans ⟨fun ⟨a, a2, c⟩ => ⟨a, a2, fun u v e => c u v (.inl (ent_lt hm e).1) e⟩, fun ⟨a, a2, c⟩ => ⟨a, a2, fun u v _ => c u v⟩⟩
theorem FB.init {P : List Nat} {i : Nat} {b : Bool} (h : b = true ↔ clN M i = i ∧ i ∉ P) : FB M P i 0 0 b := h.trans ⟨fun a => ⟨a.1, a.2, fun u v c => absurd c (by omega)⟩, fun a => ⟨a.1, a.2.1⟩⟩
def plC (P : List Nat) (n : Nat) : List AV := bls (fun z => decide (z ∈ P)) n
theorem c53_y (J : CallF) (hm : isMat M = true) {H : Heap} {b v qc qp i x : Nat} {P : List Nat} {cs : List AV} {xo : AV} (mx : MX H M b v cs) (gc : H.get qc = .cells 1 M.length (gs (clsL M))) (gp : H.get qp = .cells 1 M.length (plC P M.length)) (hx : x < M.length) :
    Tr tbl J c53_l0 (fun s h => ∃ w, FB M P i x 0 w ∧ h = H ∧ s.get [] = .slice b 0 M.length v ∧ s.get [false, false] = .slice qc 0 M.length M.length ∧ s.get [true, false] = G M.length ∧ s.get [false, true] = .slice qp 0 M.length M.length ∧ s.get [true, true] = xo ∧ s.get [false, false, false] = G i ∧ s.get [true, false, false] = .bool w ∧ s.get [false, true, false] = G x ∧ s.get [true, true, false] = G ((0 : Nat) : Int)) (.exit 4)
      (fun s h => ∃ w, FB M P i x M.length w ∧ h = H ∧ s.get [] = .slice b 0 M.length v ∧ s.get [false, false] = .slice qc 0 M.length M.length ∧ s.get [true, false] = G M.length ∧ s.get [false, true] = .slice qp 0 M.length M.length ∧ s.get [true, true] = xo ∧ s.get [false, false, false] = G i ∧ s.get [true, false, false] = .bool w ∧ s.get [false, true, false] = G x) := by
  have h8 := isMat_n hm
  refine Tr.rounds (P := fun y s h => ∃ w, FB M P i x y w ∧ h = H ∧ s.get [] = .slice b 0 M.length v ∧ s.get [false, false] = .slice qc 0 M.length M.length ∧ s.get [true, false] = G M.length ∧ s.get [false, true] = .slice qp 0 M.length M.length ∧ s.get [true, true] = xo ∧ s.get [false, false, false] = G i ∧ s.get [true, false, false] = .bool w ∧ s.get [false, true, false] = G x ∧ s.get [true, true, false] = G y) (M := M.length) (fun y hy => ?_) ?_ (by simp) 0 (by omega)
  · refine Tr.w fun s1 H1 hp R kR => W.trim ?_
    obtain ⟨w, fi, rfl, q⟩ := hp
    obtain ⟨rb, rv, er, gr⟩ := mx.r x hx
    have gb := mx.g
    have ee := row_at hm hx hy
    have cx : (gs (clsL M))[x]? = some (G (clN M x)) := gl_at _ hx
    have cy : (gs (clsL M))[y]? = some (G (clN M y)) := gl_at _ hy
    obtain ⟨n1, _, _⟩ := clN_ok hm hx
    have cp : (plC P M.length)[clN M x]? = some (.bool (decide (clN M x ∈ P))) := bls_at _ (by omega)
    have er' := getI er
    have ee' := getI ee
    have cx' := getI cx
    have cy' := getI cy
    have cp' := getI cp
    have a0 := (ent_bd hm x y).1
    have lp : (plC P M.length).length = M.length := bls_len _ _
    have hcx : clN M x < M.length := by omega
    cases w
    · have fi2 := fi.no (x' := x) (y' := y + 1) (by omega)
      clear mx fi
      refine W.assoc ?_
      refine W.seq (W.chunk ?_)
      simp (disch := first | omega | exact getEq rfl | exact getO0 | exact Nat.le_of_ble_eq_true rfl) [c53_o11, app_growP, app_noneP, plus_N, plus_at0, put_plus0, put_plus1, upd_N, upd_size, q]
      refine W.seq (W.chunk ?_)
      simp (disch := first | omega | exact getEq rfl | exact getO0 | exact Nat.le_of_ble_eq_true rfl) [app_growP, app_noneP, plus_N, plus_at0, put_plus0, put_plus1, upd_N, upd_size, q]
      refine W.seq (W.block ?_)
      refine W.chunk ?_
      simp (disch := first | omega | exact getEq rfl | exact getO0 | exact Nat.le_of_ble_eq_true rfl) [c53_o12, app_growP, app_noneP, plus_N, plus_at0, put_plus0, put_plus1, upd_N, upd_size, q]
      refine W.chunk ?_
      simp (disch := first | omega | exact getEq rfl | exact getO0 | exact Nat.le_of_ble_eq_true rfl) [c53_o13, app_growP, app_noneP, plus_N, plus_at0, put_plus0, put_plus1, upd_N, upd_size, q]
      exact kR _ _ ⟨false, fi2, rfl, by simp [T.get, q]⟩
    · by_cases c2 : 0 < ent M x y
      · have c4 : ¬ ent M x y = 0 := by omega
        by_cases c3 : clN M y = i
        · rw [c3] at cy cy'
          by_cases c1 : clN M x = i
          · have fi2 := fi.keep (y := y) (fun _ _ h => absurd c1 h)
            rw [c1] at cx cx'
            clear mx fi cp cp' n1
            generalize ent M x y = a at *
            generalize gs (M.getD x []) = cr at *
            generalize gs (clsL M) = ccs at *
            refine W.assoc ?_
            refine W.seq (W.chunk ?_)
            simp (disch := first | omega | exact getEq rfl | exact getO0 | exact Nat.le_of_ble_eq_true rfl) [c53_o11, app_growP, app_noneP, plus_N, plus_at0, put_plus0, put_plus1, upd_N, upd_size, q]
            refine W.seq (W.chunk ?_)
            simp (disch := first | omega | exact getEq rfl | exact getO0 | exact Nat.le_of_ble_eq_true rfl) [app_growP, app_noneP, plus_N, plus_at0, put_plus0, put_plus1, upd_N, upd_size, q]
            refine W.seq (W.block ?_)
            refine W.chunk ?_
            simp (disch := first | omega | exact getEq rfl | exact getO0 | exact Nat.le_of_ble_eq_true rfl) [c53_o12, app_growP, app_noneP, plus_N, plus_at0, put_plus0, put_plus1, upd_N, upd_size, q, gb, gc, er, er', gr, ee, ee', cx, cx', cy, cy', c4]
            refine W.chunk ?_
            simp (disch := first | omega | exact getEq rfl | exact getO0 | exact Nat.le_of_ble_eq_true rfl) [c53_o13, app_growP, app_noneP, plus_N, plus_at0, put_plus0, put_plus1, upd_N, upd_size, q]
            exact kR _ _ ⟨true, fi2, rfl, by simp [T.get, q]⟩
          · have c5 : ¬ (clN M x : Int) = i := by omega
            by_cases c6 : clN M x ∈ P
            · have fi2 := fi.keep (y := y) (fun _ _ _ => c6)
              rw [decide_eq_true c6] at cp cp'
              clear mx fi
              generalize ent M x y = a at *
              generalize clN M x = z at *
              generalize gs (M.getD x []) = cr at *
              generalize gs (clsL M) = ccs at *
              generalize plC P M.length = cps at *
              refine W.assoc ?_
              refine W.seq (W.chunk ?_)
              simp (disch := first | omega | exact getEq rfl | exact getO0 | exact Nat.le_of_ble_eq_true rfl) [c53_o11, app_growP, app_noneP, plus_N, plus_at0, put_plus0, put_plus1, upd_N, upd_size, q]
              refine W.seq (W.chunk ?_)
              simp (disch := first | omega | exact getEq rfl | exact getO0 | exact Nat.le_of_ble_eq_true rfl) [app_growP, app_noneP, plus_N, plus_at0, put_plus0, put_plus1, upd_N, upd_size, q]
              refine W.seq (W.block ?_)
              refine W.chunk ?_
              simp (disch := first | omega | exact getEq rfl | exact getO0 | exact Nat.le_of_ble_eq_true rfl) [c53_o12, app_growP, app_noneP, plus_N, plus_at0, put_plus0, put_plus1, upd_N, upd_size, q, gb, gc, gp, er, er', gr, ee, ee', cx, cx', cy, cy', cp, cp', c4, c5, lp]
              refine W.chunk ?_
              simp (disch := first | omega | exact getEq rfl | exact getO0 | exact Nat.le_of_ble_eq_true rfl) [c53_o13, app_growP, app_noneP, plus_N, plus_at0, put_plus0, put_plus1, upd_N, upd_size, q]
              exact kR _ _ ⟨true, fi2, rfl, by simp [T.get, q]⟩
            · have fi2 := FB.brk c2 c3 c1 c6
              rw [decide_eq_false c6] at cp cp'
              clear mx fi
              generalize ent M x y = a at *
              generalize clN M x = z at *
              generalize gs (M.getD x []) = cr at *
              generalize gs (clsL M) = ccs at *
              generalize plC P M.length = cps at *
              refine W.assoc ?_
              refine W.seq (W.chunk ?_)
              simp (disch := first | omega | exact getEq rfl | exact getO0 | exact Nat.le_of_ble_eq_true rfl) [c53_o11, app_growP, app_noneP, plus_N, plus_at0, put_plus0, put_plus1, upd_N, upd_size, q]
              refine W.seq (W.chunk ?_)
              simp (disch := first | omega | exact getEq rfl | exact getO0 | exact Nat.le_of_ble_eq_true rfl) [app_growP, app_noneP, plus_N, plus_at0, put_plus0, put_plus1, upd_N, upd_size, q]
              refine W.seq (W.block ?_)
              refine W.chunk ?_
              simp (disch := first | omega | exact getEq rfl | exact getO0 | exact Nat.le_of_ble_eq_true rfl) [c53_o12, app_growP, app_noneP, plus_N, plus_at0, put_plus0, put_plus1, upd_N, upd_size, q, gb, gc, gp, er, er', gr, ee, ee', cx, cx', cy, cy', cp, cp', c4, c5, lp]
              refine W.chunk ?_
              simp (disch := first | omega | exact getEq rfl | exact getO0 | exact Nat.le_of_ble_eq_true rfl) [c53_o13, app_growP, app_noneP, plus_N, plus_at0, put_plus0, put_plus1, upd_N, upd_size, q]
              exact kR _ _ ⟨false, fi2, rfl, by simp [T.get, q]⟩
        · have fi2 := fi.keep (y := y) (fun _ h => absurd h c3)
          have c5 : ¬ (clN M y : Int) = i := by omega
          clear mx fi cp cp'
          generalize ent M x y = a at *
          generalize clN M y = z at *
          generalize gs (M.getD x []) = cr at *
          generalize gs (clsL M) = ccs at *
          refine W.assoc ?_
          refine W.seq (W.chunk ?_)
          simp (disch := first | omega | exact getEq rfl | exact getO0 | exact Nat.le_of_ble_eq_true rfl) [c53_o11, app_growP, app_noneP, plus_N, plus_at0, put_plus0, put_plus1, upd_N, upd_size, q]
          refine W.seq (W.chunk ?_)
          simp (disch := first | omega | exact getEq rfl | exact getO0 | exact Nat.le_of_ble_eq_true rfl) [app_growP, app_noneP, plus_N, plus_at0, put_plus0, put_plus1, upd_N, upd_size, q]
          refine W.seq (W.block ?_)
          refine W.chunk ?_
          simp (disch := first | omega | exact getEq rfl | exact getO0 | exact Nat.le_of_ble_eq_true rfl) [c53_o12, app_growP, app_noneP, plus_N, plus_at0, put_plus0, put_plus1, upd_N, upd_size, q, gb, gc, er, er', gr, ee, ee', cx, cx', cy, cy', c4, c5]
          refine W.chunk ?_
          simp (disch := first | omega | exact getEq rfl | exact getO0 | exact Nat.le_of_ble_eq_true rfl) [c53_o13, app_growP, app_noneP, plus_N, plus_at0, put_plus0, put_plus1, upd_N, upd_size, q]
          exact kR _ _ ⟨true, fi2, rfl, by simp [T.get, q]⟩
      · have fi2 := fi.keep (y := y) (fun h => absurd h c2)
        have c4 : ent M x y = 0 := by omega
        rw [c4] at ee ee'
        clear mx fi cp cp'
        generalize gs (M.getD x []) = cr at *
        generalize gs (clsL M) = ccs at *
        refine W.assoc ?_
        refine W.seq (W.chunk ?_)
        simp (disch := first | omega | exact getEq rfl | exact getO0 | exact Nat.le_of_ble_eq_true rfl) [c53_o11, app_growP, app_noneP, plus_N, plus_at0, put_plus0, put_plus1, upd_N, upd_size, q]
        refine W.seq (W.chunk ?_)
        simp (disch := first | omega | exact getEq rfl | exact getO0 | exact Nat.le_of_ble_eq_true rfl) [app_growP, app_noneP, plus_N, plus_at0, put_plus0, put_plus1, upd_N, upd_size, q]
        refine W.seq (W.block ?_)
        refine W.chunk ?_
        simp (disch := first | omega | exact getEq rfl | exact getO0 | exact Nat.le_of_ble_eq_true rfl) [c53_o12, app_growP, app_noneP, plus_N, plus_at0, put_plus0, put_plus1, upd_N, upd_size, q, gb, gc, er, er', gr, ee, ee', cx, cx', cy, cy']
        refine W.chunk ?_
        simp (disch := first | omega | exact getEq rfl | exact getO0 | exact Nat.le_of_ble_eq_true rfl) [c53_o13, app_growP, app_noneP, plus_N, plus_at0, put_plus0, put_plus1, upd_N, upd_size, q]
        exact kR _ _ ⟨true, fi2, rfl, by simp [T.get, q]⟩
  · refine Tr.w fun s1 H1 hp R kR => W.trim ?_
    obtain ⟨w, fi, rfl, q⟩ := hp
    clear mx
    refine W.assoc ?_
    refine W.seq (W.chunk ?_)
    simp (disch := first | omega | exact getEq rfl | exact getO0 | exact Nat.le_of_ble_eq_true rfl) [c53_o11, app_growP, app_noneP, plus_N, plus_at0, put_plus0, put_plus1, upd_N, upd_size, q]
    refine W.seq (W.chunk ?_)
    simp (disch := first | omega | exact getEq rfl | exact getO0 | exact Nat.le_of_ble_eq_true rfl) [app_growP, app_noneP, plus_N, plus_at0, put_plus0, put_plus1, upd_N, upd_size, q]
    exact kR _ _ ⟨w, fi, rfl, by simp [T.get, q]⟩
theorem c53_x (J : CallF) (hm : isMat M = true) {H : Heap} {b v qc qp i : Nat} {P : List Nat} {cs : List AV} {xo : AV} (mx : MX H M b v cs) (gc : H.get qc = .cells 1 M.length (gs (clsL M))) (gp : H.get qp = .cells 1 M.length (plC P M.length)) :
    Tr tbl J c53_l1 (fun s h => ∃ w, FB M P i 0 0 w ∧ h = H ∧ s.get [] = .slice b 0 M.length v ∧ s.get [false, false] = .slice qc 0 M.length M.length ∧ s.get [true, false] = G M.length ∧ s.get [false, true] = .slice qp 0 M.length M.length ∧ s.get [true, true] = xo ∧ s.get [false, false, false] = G i ∧ s.get [true, false, false] = .bool w ∧ s.get [false, true, false] = G ((0 : Nat) : Int)) (.exit 2)
      (fun s h => ∃ w, FB M P i M.length 0 w ∧ h = H ∧ s.get [] = .slice b 0 M.length v ∧ s.get [false, false] = .slice qc 0 M.length M.length ∧ s.get [true, false] = G M.length ∧ s.get [false, true] = .slice qp 0 M.length M.length ∧ s.get [true, true] = xo ∧ s.get [false, false, false] = G i ∧ s.get [true, false, false] = .bool w) := by
  have h8 := isMat_n hm
  refine Tr.rounds (P := fun x s h => ∃ w, FB M P i x 0 w ∧ h = H ∧ s.get [] = .slice b 0 M.length v ∧ s.get [false, false] = .slice qc 0 M.length M.length ∧ s.get [true, false] = G M.length ∧ s.get [false, true] = .slice qp 0 M.length M.length ∧ s.get [true, true] = xo ∧ s.get [false, false, false] = G i ∧ s.get [true, false, false] = .bool w ∧ s.get [false, true, false] = G x) (M := M.length) (fun x hx => ?_) ?_ (by simp) 0 (by omega)
  · refine Tr.w fun s1 H1 hp R kR => W.trim ?_
    obtain ⟨w, fi, rfl, q⟩ := hp
    have l0 := c53_y (i := i) (xo := xo) J hm mx gc gp hx
    clear mx
    refine W.assoc ?_
    refine W.seq (W.chunk ?_)
    simp (disch := first | omega | exact getEq rfl | exact getO0 | exact Nat.le_of_ble_eq_true rfl) [c53_o9, app_growP, app_noneP, plus_N, plus_at0, put_plus0, put_plus1, upd_N, upd_size, q]
    refine W.seq (W.chunk ?_)
    simp (disch := first | omega | exact getEq rfl | exact getO0 | exact Nat.le_of_ble_eq_true rfl) [app_growP, app_noneP, plus_N, plus_at0, put_plus0, put_plus1, upd_N, upd_size, q]
    refine W.seq (W.block ?_)
    refine W.seq (W.chunk ?_)
    simp (disch := first | omega | exact getEq rfl | exact getO0 | exact Nat.le_of_ble_eq_true rfl) [c53_o10, app_growP, app_noneP, plus_N, plus_at0, put_plus0, put_plus1, upd_N, upd_size, q]
    refine W.block ?_
    refine W.use (l0) (by simp (disch := first | omega | exact getEq rfl | exact getO0 | exact Nat.le_of_ble_eq_true rfl) [app_growP, app_noneP, plus_N, plus_at0, put_plus0, put_plus1, upd_N, upd_size, q, fi]) fun s1 H1 hp => ?_
    obtain ⟨w2, fi2, rfl, q⟩ := hp
    try simp only [thenW_n, thenW_e, thenW_r, blkW_n, blkW_e, blkW_r, if_true]
    refine W.chunk ?_
    simp (disch := first | omega | exact getEq rfl | exact getO0 | exact Nat.le_of_ble_eq_true rfl) [c53_o14, app_growP, app_noneP, plus_N, plus_at0, put_plus0, put_plus1, upd_N, upd_size, q]
    exact kR _ _ ⟨w2, fi2.nextx hm, rfl, by simp [T.get, q]⟩
  · refine Tr.w fun s1 H1 hp R kR => W.trim ?_
    obtain ⟨w, fi, rfl, q⟩ := hp
    clear mx
    refine W.assoc ?_
    refine W.seq (W.chunk ?_)
    simp (disch := first | omega | exact getEq rfl | exact getO0 | exact Nat.le_of_ble_eq_true rfl) [c53_o9, app_growP, app_noneP, plus_N, plus_at0, put_plus0, put_plus1, upd_N, upd_size, q]
    refine W.seq (W.chunk ?_)
    simp (disch := first | omega | exact getEq rfl | exact getO0 | exact Nat.le_of_ble_eq_true rfl) [app_growP, app_noneP, plus_N, plus_at0, put_plus0, put_plus1, upd_N, upd_size, q]
    exact kR _ _ ⟨w, fi, rfl, by simp [T.get, q]⟩
theorem c53_k (J : CallF) (hm : isMat M = true) {H : Heap} {b v qc qp i : Nat} {xo : AV} (gc : H.get qc = .cells 1 M.length (gs (clsL M))) :
    Tr tbl J c53_l2 (fun s h => h = H ∧ s.get [] = .slice b 0 M.length v ∧ s.get [false, false] = .slice qc 0 M.length M.length ∧ s.get [true, false] = G M.length ∧ s.get [false, true] = .slice qp 0 M.length M.length ∧ s.get [true, true] = xo ∧ s.get [false, false, false] = G i ∧ s.get [false, false, true] = .nils ∧ s.get [true, false, true] = G ((0 : Nat) : Int)) (.exit 6)
      (fun s h => ∃ x11, NG H h x11 (cmL M i M.length) ∧ s.get [] = .slice b 0 M.length v ∧ s.get [false, false] = .slice qc 0 M.length M.length ∧ s.get [true, false] = G M.length ∧ s.get [false, true] = .slice qp 0 M.length M.length ∧ s.get [true, true] = xo ∧ s.get [false, false, false] = G i ∧ s.get [false, false, true] = x11) := by
  have h8 := isMat_n hm
  refine Tr.pre (P := fun s h => ∃ x11, NG H h x11 (cmL M i 0) ∧ s.get [] = .slice b 0 M.length v ∧ s.get [false, false] = .slice qc 0 M.length M.length ∧ s.get [true, false] = G M.length ∧ s.get [false, true] = .slice qp 0 M.length M.length ∧ s.get [true, true] = xo ∧ s.get [false, false, false] = G i ∧ s.get [false, false, true] = x11 ∧ s.get [true, false, true] = G ((0 : Nat) : Int)) (fun s h q => ⟨.nils, by rw [q.1]; exact NG.nil H, q.2⟩) ?_
  refine Tr.rounds (P := fun k s h => ∃ x11, NG H h x11 (cmL M i k) ∧ s.get [] = .slice b 0 M.length v ∧ s.get [false, false] = .slice qc 0 M.length M.length ∧ s.get [true, false] = G M.length ∧ s.get [false, true] = .slice qp 0 M.length M.length ∧ s.get [true, true] = xo ∧ s.get [false, false, false] = G i ∧ s.get [false, false, true] = x11 ∧ s.get [true, false, true] = G k) (M := M.length) (fun k hk => ?_) ?_ (by simp) 0 (by omega)
  · refine Tr.w fun s1 H1 hp R kR => W.trim ?_
    obtain ⟨x11, ng, q⟩ := hp
    have gc1 := ng.k.at gc (by simp) id
    have ck : (gs (clsL M))[k]? = some (G (clN M k)) := gl_at _ hk
    have ck' := getI ck
    by_cases cc : clN M k = i
    · obtain ⟨x1, e, h2, q1, q2, ng2, _⟩ := ng.app H1.size (k : Int) (by have := cmL_len (M := M) i k; omega)
      rw [← cmL_t cc] at ng2
      have f1 := app1_at H1 (G (k : Int))
      rw [cc] at ck ck'
      clear ng
      generalize gs (clsL M) = ccs at *
      refine W.assoc ?_
      refine W.seq (W.chunk ?_)
      simp (disch := first | omega | exact getEq rfl | exact getO0 | exact Nat.le_of_ble_eq_true rfl) [c53_o19, app_growP, app_noneP, plus_N, plus_at0, put_plus0, put_plus1, upd_N, upd_size, q]
      refine W.seq (W.chunk ?_)
      simp (disch := first | omega | exact getEq rfl | exact getO0 | exact Nat.le_of_ble_eq_true rfl) [app_growP, app_noneP, plus_N, plus_at0, put_plus0, put_plus1, upd_N, upd_size, q]
      refine W.seq (W.block ?_)
      refine W.seq (W.chunk ?_)
      simp (disch := first | omega | exact getEq rfl | exact getO0 | exact Nat.le_of_ble_eq_true rfl) [c53_o20, app_growP, app_noneP, plus_N, plus_at0, put_plus0, put_plus1, upd_N, upd_size, q, gc1, ck, ck']
      refine W.cond (v := true) (by simp (disch := first | omega | exact getEq rfl | exact getO0 | exact Nat.le_of_ble_eq_true rfl) [app_growP, app_noneP, plus_N, plus_at0, put_plus0, put_plus1, upd_N, upd_size, q]) ?_
      simp only [if_true, if_false, Bool.false_eq_true]
      refine W.chunk ?_
      simp (disch := first | omega | exact getEq rfl | exact getO0 | exact Nat.le_of_ble_eq_true rfl) [c53_o21, app_growP, app_noneP, plus_N, plus_at0, put_plus0, put_plus1, upd_N, upd_size, q, elems, rdOf, f1, q1, q2]
      refine W.chunk ?_
      simp (disch := first | omega | exact getEq rfl | exact getO0 | exact Nat.le_of_ble_eq_true rfl) [c53_o22, app_growP, app_noneP, plus_N, plus_at0, put_plus0, put_plus1, upd_N, upd_size, q]
      exact kR _ _ ⟨x1, ng2, by simp [T.get, q]⟩
    · have ng2 := ng
      rw [← cmL_f cc] at ng2
      have cc' : ¬ (clN M k : Int) = i := by omega
      clear ng
      generalize clN M k = u at *
      generalize gs (clsL M) = ccs at *
      refine W.assoc ?_
      refine W.seq (W.chunk ?_)
      simp (disch := first | omega | exact getEq rfl | exact getO0 | exact Nat.le_of_ble_eq_true rfl) [c53_o19, app_growP, app_noneP, plus_N, plus_at0, put_plus0, put_plus1, upd_N, upd_size, q]
      refine W.seq (W.chunk ?_)
      simp (disch := first | omega | exact getEq rfl | exact getO0 | exact Nat.le_of_ble_eq_true rfl) [app_growP, app_noneP, plus_N, plus_at0, put_plus0, put_plus1, upd_N, upd_size, q]
      refine W.seq (W.block ?_)
      refine W.seq (W.chunk ?_)
      simp (disch := first | omega | exact getEq rfl | exact getO0 | exact Nat.le_of_ble_eq_true rfl) [c53_o20, app_growP, app_noneP, plus_N, plus_at0, put_plus0, put_plus1, upd_N, upd_size, q, gc1, ck, ck']
      refine W.chunk ?_
      simp (disch := first | omega | exact getEq rfl | exact getO0 | exact Nat.le_of_ble_eq_true rfl) [c53_o21, app_growP, app_noneP, plus_N, plus_at0, put_plus0, put_plus1, upd_N, upd_size, q]
      refine W.chunk ?_
      simp (disch := first | omega | exact getEq rfl | exact getO0 | exact Nat.le_of_ble_eq_true rfl) [c53_o22, app_growP, app_noneP, plus_N, plus_at0, put_plus0, put_plus1, upd_N, upd_size, q]
      exact kR _ _ ⟨x11, ng2, by simp [T.get, q]⟩
  · refine Tr.w fun s1 H1 hp R kR => W.trim ?_
    obtain ⟨x11, ng, q⟩ := hp
    refine W.assoc ?_
    refine W.seq (W.chunk ?_)
    simp (disch := first | omega | exact getEq rfl | exact getO0 | exact Nat.le_of_ble_eq_true rfl) [c53_o19, app_growP, app_noneP, plus_N, plus_at0, put_plus0, put_plus1, upd_N, upd_size, q]
    refine W.seq (W.chunk ?_)
    simp (disch := first | omega | exact getEq rfl | exact getO0 | exact Nat.le_of_ble_eq_true rfl) [app_growP, app_noneP, plus_N, plus_at0, put_plus0, put_plus1, upd_N, upd_size, q]
    exact kR _ _ ⟨x11, ng, by simp [T.get, q]⟩
structure S53 (Hb h : Heap) (M : List (List Int)) (P : List Nat) (x6 : AV) : Prop where
  e : ∃ A, Kp (fun _ => False) Hb A ∧ Hb.size < A.size ∧ A.get Hb.size = .cells 1 M.length (plC P M.length) ∧ TB A h x6 (bkC M P)
theorem plC_set (P : List Nat) {n c : Nat} (hc : c < n) : (plC P n).set c (.bool true) = plC (P ++ [c]) n := by
  unfold plC
  rw [bls_set _ _ _ _ hc]
  apply bls_ext
  intro z hz
  by_cases e : z = c
  · subst e; simp
  · simp [e]
theorem S53.gp {Hb h : Heap} {P : List Nat} {x6 : AV} (t : S53 Hb h M P x6) : h.get Hb.size = .cells 1 M.length (plC P M.length) := by
  obtain ⟨A, k, sz, g, tb⟩ := t
  exact tb.k.at g (by simp) id
theorem S53.kp {Hb h : Heap} {P : List Nat} {x6 : AV} (t : S53 Hb h M P x6) : Kp (fun _ => False) Hb h := by
  obtain ⟨A, k, sz, g, tb⟩ := t
  exact k.trans tb.k
theorem S53.add {Hb H h : Heap} {P : List Nat} {x6 x11 : AV} {c : Nat} (t : S53 Hb H M P x6) (ng : NG H h x11 (cmL M c M.length)) (hc : clN M c = c) (hcn : c < M.length) (hP : P.length ≤ 8) :
    ∃ b n, x11 = .slice b 0 n n ∧ ∃ x1 e h2 h3, appA (h.plus [.cells 1 1 [.slice b 0 n n]]) h.size none 1 24 1 [.slice b 0 n n] x6 = some (x1, e) ∧ Eff.app e (h.plus [.cells 1 1 [.slice b 0 n n]]) = some h2 ∧ Eff.app (.put Hb.size M.length c [.bool true]) h2 = some h3 ∧ S53 Hb h3 M (P ++ [c]) x1 ∧ AV.cells x1 = some [x1] := by
  obtain ⟨A, k, sz, g, tb⟩ := t
  obtain ⟨b, rfl, gb⟩ := ng.l.sl (by
    intro e
    have : cmL M c M.length = [] := by simpa using e
    exact cmL_pos hc hcn this)
  have hb := ng.x0 b rfl
  have tb2 := tb.kp ng.k
  have hx : blk x6 ≠ some b := fun e => by
    obtain ⟨rs, lv, _⟩ := tb.r
    have := lv.lt e
    omega
  obtain ⟨x1, e, h2, q1, q2, q3, q4⟩ := tb2.app h.size gb ⟨hx, by have := tb.k.size; omega⟩ (by rw [bkC_len]; omega)
  rw [← bkC_s] at q3
  have g2 := q3.k.at g (by simp) id
  have hN : A.N ≤ Hb.size := by rw [k.N]; unfold Heap.size; omega
  have hN2 : h2.N ≤ Hb.size := by rw [q3.k.N]; exact hN
  have p := put_gen h2 Hb.size M.length c 1 (plC P M.length) [.bool true] hN2 g2 (by rw [show (plC P M.length).length = M.length from bls_len _ _]; show c + 1 ≤ M.length; omega)
  rw [show putAt (plC P M.length) c [.bool true] = plC (P ++ [c]) M.length from plC_set P hcn] at p
  refine ⟨b, _, rfl, x1, e, h2, _, q1, q2, p, ⟨A.upd Hb.size (.cells 1 M.length (plC (P ++ [c]) M.length)), k.updn _ _ hN (Nat.le_refl _), by rw [upd_size]; exact sz, upd_same _ _ _ hN sz, q3.both hN sz⟩, q4⟩
def st53 (M : List (List Int)) (Hb : Heap) (b v qc : Nat) (P : List Nat) (i : Nat) (s : T) (h : Heap) : Prop := ∃ x6, S53 Hb h M P x6 ∧ s.get [] = .slice b 0 M.length v ∧ s.get [false, false] = .slice qc 0 M.length M.length ∧ s.get [true, false] = G M.length ∧ s.get [false, true] = .slice Hb.size 0 M.length M.length ∧ s.get [true, true] = x6 ∧ s.get [false, false, false] = G i
def po53 (M : List (List Int)) (Hb : Heap) (s : T) (h : Heap) : Prop := ∃ x6, TB Hb h x6 (bkC M (seqB M)) ∧ s.get [true, true] = x6
theorem c53_in (J : CallF) (hm : isMat M = true) {Hb : Heap} {b v qc : Nat} {cs : List AV} {P : List Nat} (mx : MX Hb M b v cs) (gc : Hb.get qc = .cells 1 M.length (gs (clsL M))) (pb : PB M P) (ih : ∀ c, c < M.length → cand M P c → (∀ e, e < c → ¬ cand M P e) → Tr tbl J c53_l3 (st53 M Hb b v qc (P ++ [c]) 0) (.exit 0) (po53 M Hb)) : ∀ f i, i + f = M.length → (∀ e, e < i → ¬ cand M P e) →
    Tr tbl J c53_l3 (st53 M Hb b v qc P i) (.exit 0) (po53 M Hb) := by
  have h8 := isMat_n hm
  have hP := pb.len
  intro f
  induction f with
  | zero =>
    intro i hi hno
    refine Tr.w fun s1 H1 hp R kR => ?_
    obtain ⟨x6, t, q⟩ := hp
    have tb : TB Hb H1 x6 (bkC M (seqB M)) := by
      rw [← pb.done fun c hc => hno c (by omega)]
      obtain ⟨A, k, _, _, tb⟩ := t
      exact TB.base k tb
    clear mx t
    refine W.loop (W.trim ?_)
    refine W.assoc ?_
    refine W.seq (W.chunk ?_)
    simp (disch := first | omega | exact getEq rfl | exact getO0 | exact Nat.le_of_ble_eq_true rfl) [c53_o6, app_growP, app_noneP, plus_N, plus_at0, put_plus0, put_plus1, upd_N, upd_size, q]
    refine W.seq (W.chunk ?_)
    simp (disch := first | omega | exact getEq rfl | exact getO0 | exact Nat.le_of_ble_eq_true rfl) [app_growP, app_noneP, plus_N, plus_at0, put_plus0, put_plus1, upd_N, upd_size, q]
    exact kR _ _ ⟨x6, tb, by simp [T.get, q]⟩
  | succ f ihf =>
    intro i hi hno
    have hin : i < M.length := by omega
    refine Tr.w fun s1 H1 hp R kR => ?_
    obtain ⟨x6, t, q⟩ := hp
    have gc1 := t.kp.at gc (by simp) id
    have gp := t.gp
    have l1 := c53_x (i := i) (xo := x6) J hm (mx.kp t.kp) gc1 gp
    have l2 := c53_k (b := b) (v := v) (qp := Hb.size) (i := i) (xo := x6) J hm gc1
    have ci : (gs (clsL M))[i]? = some (G (clN M i)) := gl_at _ hin
    have cp : (plC P M.length)[i]? = some (.bool (decide (i ∈ P))) := bls_at _ hin
    have ci' := getI ci
    have cp' := getI cp
    have lp : (plC P M.length).length = M.length := bls_len _ _
    have hw : ∀ w, FB M P i M.length 0 w → (w = true ↔ cand M P i) := fun w l => l.done hm
    by_cases hc : cand M P i
    · have ih := ih i hin hc hno
      have fi0 : FB M P i 0 0 true := FB.init ⟨fun _ => ⟨hc.1, hc.2.1⟩, fun _ => rfl⟩
      have hc1 := hc.1
      rw [hc1] at ci ci'
      rw [decide_eq_false hc.2.1] at cp cp'
      clear mx
      generalize hcc : gs (clsL M) = ccs at *
      generalize hcp : plC P M.length = cps at *
      refine W.loop (W.trim ?_)
      refine W.assoc ?_
      refine W.seq (W.chunk ?_)
      simp (disch := first | omega | exact getEq rfl | exact getO0 | exact Nat.le_of_ble_eq_true rfl) [c53_o6, app_growP, app_noneP, plus_N, plus_at0, put_plus0, put_plus1, upd_N, upd_size, q]
      refine W.seq (W.chunk ?_)
      simp (disch := first | omega | exact getEq rfl | exact getO0 | exact Nat.le_of_ble_eq_true rfl) [app_growP, app_noneP, plus_N, plus_at0, put_plus0, put_plus1, upd_N, upd_size, q]
      refine W.block ?_
      refine W.seq (W.chunk ?_)
      simp (disch := first | omega | exact getEq rfl | exact getO0 | exact Nat.le_of_ble_eq_true rfl) [c53_o7, app_growP, app_noneP, plus_N, plus_at0, put_plus0, put_plus1, upd_N, upd_size, q, gc1, gp, ci, ci', cp, cp', lp]
      refine W.assoc ?_
      refine W.seq (W.chunk ?_)
      simp (disch := first | omega | exact getEq rfl | exact getO0 | exact Nat.le_of_ble_eq_true rfl) [c53_o8, app_growP, app_noneP, plus_N, plus_at0, put_plus0, put_plus1, upd_N, upd_size, q]
      refine W.seq (W.block ?_)
      refine W.use (l1) (by simp (disch := first | omega | exact getEq rfl | exact getO0 | exact Nat.le_of_ble_eq_true rfl) [app_growP, app_noneP, plus_N, plus_at0, put_plus0, put_plus1, upd_N, upd_size, q, fi0]) fun s1 H1 hp => ?_
      obtain ⟨w, fi, rfl, q⟩ := hp
      try simp only [thenW_n, thenW_e, thenW_r, blkW_n, blkW_e, blkW_r, if_true]
      refine W.assoc ?_
      obtain rfl : w = true := (hw w fi).2 hc
      refine W.seq (W.chunk ?_)
      simp (disch := first | omega | exact getEq rfl | exact getO0 | exact Nat.le_of_ble_eq_true rfl) [c53_o15, app_growP, app_noneP, plus_N, plus_at0, put_plus0, put_plus1, upd_N, upd_size, q]
      refine W.seq (W.chunk ?_)
      simp (disch := first | omega | exact getEq rfl | exact getO0 | exact Nat.le_of_ble_eq_true rfl) [c53_o16, app_growP, app_noneP, plus_N, plus_at0, put_plus0, put_plus1, upd_N, upd_size, q]
      refine W.seq (W.chunk ?_)
      simp (disch := first | omega | exact getEq rfl | exact getO0 | exact Nat.le_of_ble_eq_true rfl) [c53_o17, app_growP, app_noneP, plus_N, plus_at0, put_plus0, put_plus1, upd_N, upd_size, q]
      refine W.assoc ?_
      refine W.seq (W.chunk ?_)
      simp (disch := first | omega | exact getEq rfl | exact getO0 | exact Nat.le_of_ble_eq_true rfl) [c53_o18, app_growP, app_noneP, plus_N, plus_at0, put_plus0, put_plus1, upd_N, upd_size, q]
      refine W.seq (W.block ?_)
      refine W.use (l2) (by simp (disch := first | omega | exact getEq rfl | exact getO0 | exact Nat.le_of_ble_eq_true rfl) [app_growP, app_noneP, plus_N, plus_at0, put_plus0, put_plus1, upd_N, upd_size, q]) fun s1 H1 hp => ?_
      obtain ⟨x11, ng, q⟩ := hp
      try simp only [thenW_n, thenW_e, thenW_r, blkW_n, blkW_e, blkW_r, if_true]
      obtain ⟨bb, n, rfl, x1, e, h2, h3, q1, q2, q3, t2, q4⟩ := t.add ng hc1 hin (by omega)
      have f1 := app1_at H1 (.slice bb 0 n n)
      refine W.seq (W.chunk ?_)
      simp (disch := first | omega | exact getEq rfl | exact getO0 | exact Nat.le_of_ble_eq_true rfl) [c53_o23, app_growP, app_noneP, plus_N, plus_at0, put_plus0, put_plus1, upd_N, upd_size, q, elems, rdOf, f1, q1, q2]
      refine W.seq (W.chunk ?_)
      simp (disch := first | omega | exact getEq rfl | exact getO0 | exact Nat.le_of_ble_eq_true rfl) [c53_o24, app_growP, app_noneP, plus_N, plus_at0, put_plus0, put_plus1, upd_N, upd_size, q, q3]
      refine W.chunk ?_
      simp (disch := first | omega | exact getEq rfl | exact getO0 | exact Nat.le_of_ble_eq_true rfl) [c53_o25, app_growP, app_noneP, plus_N, plus_at0, put_plus0, put_plus1, upd_N, upd_size, q]
      exact W.use ih ⟨x1, t2, by simp [T.get, q]⟩ kR
    · have ih := ihf (i + 1) (by omega) fun e he => by
        rcases Nat.lt_or_ge e i with l | l
        · exact hno e l
        · have : e = i := by omega
          subst this; exact hc
      have key : ∃ w0, FB M P i 0 0 w0 ∧ w0 = (decide (clN M i = i) && !decide (i ∈ P)) := ⟨_, FB.init (by simp), rfl⟩
      obtain ⟨w0, fi0, hw0⟩ := key
      by_cases c1 : clN M i = i
      · rw [decide_eq_true c1] at hw0
        rw [c1] at ci ci'
        clear mx ihf
        generalize decide (i ∈ P) = pp at *
        generalize hcc : gs (clsL M) = ccs at *
        generalize hcp : plC P M.length = cps at *
        cases pp <;> simp only [Bool.not_false, Bool.not_true, Bool.true_and] at hw0 <;> subst hw0
        all_goals
          refine W.loop (W.trim ?_)
          refine W.assoc ?_
          refine W.seq (W.chunk ?_)
          simp (disch := first | omega | exact getEq rfl | exact getO0 | exact Nat.le_of_ble_eq_true rfl) [c53_o6, app_growP, app_noneP, plus_N, plus_at0, put_plus0, put_plus1, upd_N, upd_size, q]
          refine W.seq (W.chunk ?_)
          simp (disch := first | omega | exact getEq rfl | exact getO0 | exact Nat.le_of_ble_eq_true rfl) [app_growP, app_noneP, plus_N, plus_at0, put_plus0, put_plus1, upd_N, upd_size, q]
          refine W.block ?_
          refine W.seq (W.chunk ?_)
          simp (disch := first | omega | exact getEq rfl | exact getO0 | exact Nat.le_of_ble_eq_true rfl) [c53_o7, app_growP, app_noneP, plus_N, plus_at0, put_plus0, put_plus1, upd_N, upd_size, q, gc1, gp, ci, ci', cp, cp', lp]
          refine W.assoc ?_
          refine W.seq (W.chunk ?_)
          simp (disch := first | omega | exact getEq rfl | exact getO0 | exact Nat.le_of_ble_eq_true rfl) [c53_o8, app_growP, app_noneP, plus_N, plus_at0, put_plus0, put_plus1, upd_N, upd_size, q]
          refine W.seq (W.block ?_)
          refine W.use (l1) (by simp (disch := first | omega | exact getEq rfl | exact getO0 | exact Nat.le_of_ble_eq_true rfl) [app_growP, app_noneP, plus_N, plus_at0, put_plus0, put_plus1, upd_N, upd_size, q, fi0]) fun s1 H1 hp => ?_
          obtain ⟨w, fi, rfl, q⟩ := hp
          try simp only [thenW_n, thenW_e, thenW_r, blkW_n, blkW_e, blkW_r, if_true]
          refine W.assoc ?_
          obtain rfl : w = false := Bool.eq_false_iff.2 fun e => hc ((hw w fi).1 e)
          refine W.seq (W.chunk ?_)
          simp (disch := first | omega | exact getEq rfl | exact getO0 | exact Nat.le_of_ble_eq_true rfl) [c53_o15, app_growP, app_noneP, plus_N, plus_at0, put_plus0, put_plus1, upd_N, upd_size, q]
          refine W.seq (W.chunk ?_)
          simp (disch := first | omega | exact getEq rfl | exact getO0 | exact Nat.le_of_ble_eq_true rfl) [c53_o16, app_growP, app_noneP, plus_N, plus_at0, put_plus0, put_plus1, upd_N, upd_size, q]
          exact W.use ih ⟨x6, t, by simp [T.get, q]⟩ kR
      · rw [decide_eq_false c1] at hw0
        have c1' : ¬ (clN M i : Int) = i := by omega
        clear mx ihf cp cp'
        generalize clN M i = u at *
        generalize hcc : gs (clsL M) = ccs at *
        generalize hcp : plC P M.length = cps at *
        simp only [Bool.false_and] at hw0
        subst hw0
        refine W.loop (W.trim ?_)
        refine W.assoc ?_
        refine W.seq (W.chunk ?_)
        simp (disch := first | omega | exact getEq rfl | exact getO0 | exact Nat.le_of_ble_eq_true rfl) [c53_o6, app_growP, app_noneP, plus_N, plus_at0, put_plus0, put_plus1, upd_N, upd_size, q]
        refine W.seq (W.chunk ?_)
        simp (disch := first | omega | exact getEq rfl | exact getO0 | exact Nat.le_of_ble_eq_true rfl) [app_growP, app_noneP, plus_N, plus_at0, put_plus0, put_plus1, upd_N, upd_size, q]
        refine W.block ?_
        refine W.seq (W.chunk ?_)
        simp (disch := first | omega | exact getEq rfl | exact getO0 | exact Nat.le_of_ble_eq_true rfl) [c53_o7, app_growP, app_noneP, plus_N, plus_at0, put_plus0, put_plus1, upd_N, upd_size, q, gc1, ci, ci', c1']
        refine W.assoc ?_
        refine W.seq (W.chunk ?_)
        simp (disch := first | omega | exact getEq rfl | exact getO0 | exact Nat.le_of_ble_eq_true rfl) [c53_o8, app_growP, app_noneP, plus_N, plus_at0, put_plus0, put_plus1, upd_N, upd_size, q]
        refine W.seq (W.block ?_)
        refine W.use (l1) (by simp (disch := first | omega | exact getEq rfl | exact getO0 | exact Nat.le_of_ble_eq_true rfl) [app_growP, app_noneP, plus_N, plus_at0, put_plus0, put_plus1, upd_N, upd_size, q, fi0]) fun s1 H1 hp => ?_
        obtain ⟨w, fi, rfl, q⟩ := hp
        try simp only [thenW_n, thenW_e, thenW_r, blkW_n, blkW_e, blkW_r, if_true]
        refine W.assoc ?_
        obtain rfl : w = false := Bool.eq_false_iff.2 fun e => hc ((hw w fi).1 e)
        refine W.seq (W.chunk ?_)
        simp (disch := first | omega | exact getEq rfl | exact getO0 | exact Nat.le_of_ble_eq_true rfl) [c53_o15, app_growP, app_noneP, plus_N, plus_at0, put_plus0, put_plus1, upd_N, upd_size, q]
        refine W.seq (W.chunk ?_)
        simp (disch := first | omega | exact getEq rfl | exact getO0 | exact Nat.le_of_ble_eq_true rfl) [c53_o16, app_growP, app_noneP, plus_N, plus_at0, put_plus0, put_plus1, upd_N, upd_size, q]
        exact W.use ih ⟨x6, t, by simp [T.get, q]⟩ kR
theorem c53_l (J : CallF) (hm : isMat M = true) {Hb : Heap} {b v qc : Nat} {cs : List AV} (mx : MX Hb M b v cs) (gc : Hb.get qc = .cells 1 M.length (gs (clsL M))) : ∀ d P, P.length + d = M.length → PB M P →
    Tr tbl J c53_l3 (st53 M Hb b v qc P 0) (.exit 0) (po53 M Hb) := by
  intro d
  induction d with
  | zero =>
    intro P hd pb
    refine c53_in J hm mx gc pb (fun c c1 c2 c3 => ?_) M.length 0 (by omega) (fun e he => by omega)
    have := (pb.push c1 c2 c3).len
    simp at this
    omega
  | succ d ih =>
    intro P hd pb
    exact c53_in J hm mx gc pb (fun c c1 c2 c3 => ih (P ++ [c]) (by simp; omega) (pb.push c1 c2 c3)) M.length 0 (by omega) (fun e he => by omega)
theorem c53_ok (J : CallF) (k50 : K50 J) (hJ : ∀ a h, J 53 a h = none) (h : Heap) {y : AV} (hy : MR h y M) (hm : isMat M = true) : ∃ v own, CallsTo tbl J 53 [y] h (v, own, false) ∧ TB h (h.plus own) v (bkC M (seqB M)) := by
  refine Tr.fny (cf := c53) (e := .ret) (s := T.set .leaf [] y) (by decide) rfl (hJ _ _) rfl rfl (by simp) ?_
  have h8 := isMat_n hm
  have hy0 : MR (frameOf h) y M := hy.lo []
  obtain ⟨w, own, k50, nc⟩ := k50 (frameOf h) ⟨M, y⟩ hy0 hm
  simp only at k50 nc
  obtain ⟨qc, rfl, gc⟩ := nc.l.sl (by intro e; have h0 : (gs (clsL M)).length = M.length := gl_len _ _; rw [e] at h0; simp at h0; omega)
  rw [show (gs (clsL M)).length = M.length from gl_len _ _] at k50 gc
  obtain ⟨b, v, cs, rfl, mx⟩ := hy0.mx hm
  have kp : Kp (fun _ => False) (frameOf h) ((frameOf h).plus own) := Kp.plus _ _
  have mx1 := mx.kp kp
  generalize hHa : (frameOf h).plus own = Ha at *
  have mk1 := fun H => mkSl_ok H 1 (AV.bool false) M.length (M.length : Int) rfl (by omega)
  have rp := bls_rep M.length
  have ez : bls (fun _ => false) M.length = plC [] M.length := by unfold plC; apply bls_ext; intro z hz; simp
  rw [ez] at rp
  have l3 : Tr tbl J c53_l3 (fun s h => ∃ x6, S53 Ha h M [] x6 ∧ s.get [] = .slice b 0 M.length v ∧ s.get [false, false] = .slice qc 0 M.length M.length ∧ s.get [true, false] = G M.length ∧ s.get [false, true] = .slice Ha.size 0 M.length M.length ∧ s.get [true, true] = x6 ∧ s.get [false, false, false] = G ((0 : Nat) : Int)) (.exit 0) (fun s h => ∃ x6, TB Ha h x6 (bkC M (seqB M)) ∧ s.get [true, true] = x6) := c53_l J hm mx1 gc M.length [] (by simp) PB.nil
  have s0 : S53 Ha (Ha.plus [.cells 1 M.length (plC [] M.length)]) M [] .nils := ⟨_, Kp.plus _ _, by rw [plus_size]; show Ha.size < Ha.size + 1; omega, plus_at0 _ _ _ _ rfl, TB.nil _⟩
  clear nc mx hy hy0
  refine Tr.w fun s1 H1 hp R kR => ?_
  obtain ⟨rfl, rfl⟩ := hp
  have q : True := trivial
  generalize hcp : plC [] M.length = cps at *
  refine W.seq (W.chunk ?_)
  simp (disch := first | omega | exact getEq rfl | exact getO0 | exact Nat.le_of_ble_eq_true rfl) [c53_o0, app_growP, app_noneP, plus_N, plus_at0, put_plus0, put_plus1, upd_N, upd_size, q]
  refine W.seq (W.chunk ?_)
  simp (disch := first | omega | exact getEq rfl | exact getO0 | exact Nat.le_of_ble_eq_true rfl) [c53_o1, app_growP, app_noneP, plus_N, plus_at0, put_plus0, put_plus1, upd_N, upd_size, q, k50, app_if, app_if', hHa]
  refine W.seq (W.chunk ?_)
  simp (disch := first | omega | exact getEq rfl | exact getO0 | exact Nat.le_of_ble_eq_true rfl) [c53_o2, app_growP, app_noneP, plus_N, plus_at0, put_plus0, put_plus1, upd_N, upd_size, q]
  refine W.seq (W.chunk ?_)
  simp (disch := first | omega | exact getEq rfl | exact getO0 | exact Nat.le_of_ble_eq_true rfl) [-act, c53_o3, app_growP, app_noneP, plus_N, plus_at0, put_plus0, put_plus1, upd_N, upd_size, q, act_move, act_mkSl, mk1, rp]
  refine W.seq (W.chunk ?_)
  simp (disch := first | omega | exact getEq rfl | exact getO0 | exact Nat.le_of_ble_eq_true rfl) [c53_o4, app_growP, app_noneP, plus_N, plus_at0, put_plus0, put_plus1, upd_N, upd_size, q]
  refine W.assoc ?_
  refine W.seq (W.chunk ?_)
  simp (disch := first | omega | exact getEq rfl | exact getO0 | exact Nat.le_of_ble_eq_true rfl) [c53_o5, app_growP, app_noneP, plus_N, plus_at0, put_plus0, put_plus1, upd_N, upd_size, q]
  refine W.seq (W.block ?_)
  refine W.use (l3) (by simp (disch := first | omega | exact getEq rfl | exact getO0 | exact Nat.le_of_ble_eq_true rfl) [app_growP, app_noneP, plus_N, plus_at0, put_plus0, put_plus1, upd_N, upd_size, q, s0]) fun s1 H1 hp => ?_
  obtain ⟨x, tb, q⟩ := hp
  try simp only [thenW_n, thenW_e, thenW_r, blkW_n, blkW_e, blkW_r, if_true]
  refine W.seq (W.chunk ?_)
  simp (disch := first | omega | exact getEq rfl | exact getO0 | exact Nat.le_of_ble_eq_true rfl) [c53_o26, app_growP, app_noneP, plus_N, plus_at0, put_plus0, put_plus1, upd_N, upd_size, q]
  refine W.ret ?_
  try simp only [thenW_n, thenW_e, thenW_r, blkW_n, blkW_e, blkW_r, if_true]
  exact kR _ _ ⟨[x], by simp [T.get, c53, evRess, evRes, q], (TB.base kp tb).fr0⟩
end
def Post53 (a : AM) (h : Heap) (v : AV) (own : List AObj) : Prop := TB h (h.plus own) v (bkC a.M (seqB a.M))
noncomputable def T32 : CallF := addK tbl T31 53 PreO Post53
theorem t32 : Sound Go.Proofs.Try.prog T32 := Sound.addK follows ok t31 (by decide) _ _
abbrev K53 (J : CallF) : Prop := ∀ (h : Heap) (a : AM), MR h a.y a.M → isMat a.M = true → ∃ v own, J 53 [a.y] h = some (v, own, false) ∧ TB h (h.plus own) v (bkC a.M (seqB a.M))
theorem k50_31 : K50 T31 := fun h a ha hm => by
  simp (disch := decide) only [T31, T30, T29, T28, T27, T26, T25, T24, T23, addK_ne]
  exact k50 h a ha hm
theorem k53 : K53 T32 := fun h a ha hm => addK_some (Pre := PreO) (Post := Post53) (fun a args h hp => by
  obtain ⟨⟨hy, hm⟩, rfl⟩ := hp
  exact c53_ok T31 k50_31 (fun _ _ => by simp (disch := decide) only [T31, T30, T29, T28, T27, T26, T25, T24, T23, T22, T21, T20, T19, T18, T17, T16, T15, T14, T13, T12, T11, T10, T9, T8, T7, T6, T5, T4, T3, T2, T1, R21, R20, R19, R18, R17, R16, R15, R14, R13, R12, R11, R10, R9, R8, R7, R6, R5, R4, R3, R2, R1, addI_ne, addX_ne, addV_ne, addK_ne]; rfl) h hy hm) a _ h ⟨⟨ha, hm⟩, rfl⟩
end Go.Proofs.Ytjeemgaoonapgaa.Ev
set_option linter.unusedVariables false
set_option linter.unusedSimpArgs false
namespace Go.Proofs.Ytjeemgaoonapgaa.Ev
open Go Go.AEv
attribute [local simp] evFunc initS evOps_c evTrim_c evSkip_c evExit_c evRet_c evSeq_c evCond_c evBlock_c evDraw_c runOps_n runOps_c exec_n exec_g pure1_c act AOpd.ev T.get T.set T.put evBin evUn forceT_eq forceV_eq forceL_eq evRess evRes one keep runFP_n runFP_c app_none AV.flats AV.flat came_some List.getElem?_cons_zero List.getElem?_cons_succ beqT wrapI idxI tdivI tmodI decT decF ibT ibF inT inF evScope_c if_pos if_neg Cm_some thenW_n thenW_e thenW_r blkW_n blkW_e blkW_r goI kn putAt AV.cells fillA loadA takeA mk Eff.isAll Eff.isNone Eff.commutes Eff.spares okPair apart eqAgg fits LK.fits allEq aveq eqk mmA
theorem cutM_len (M : List (List Int)) : (cutM M).length ≤ 9 := by unfold cutM; rw [List.length_map, List.length_take]; omega
end Go.Proofs.Ytjeemgaoonapgaa.Ev
set_option linter.unusedVariables false
set_option linter.unusedSimpArgs false
namespace Go.Proofs.Ytjeemgaoonapgaa.Ev
open Go Go.AEv
attribute [local simp] evFunc initS evOps_c evTrim_c evSkip_c evExit_c evRet_c evSeq_c evCond_c evBlock_c evDraw_c runOps_n runOps_c exec_n exec_g pure1_c act AOpd.ev T.get T.set T.put evBin evUn forceT_eq forceV_eq forceL_eq evRess evRes one keep runFP_n runFP_c app_none AV.flats AV.flat came_some List.getElem?_cons_zero List.getElem?_cons_succ beqT wrapI idxI tdivI tmodI decT decF ibT ibF inT inF evScope_c if_pos if_neg Cm_some thenW_n thenW_e thenW_r blkW_n blkW_e blkW_r goI kn putAt AV.cells fillA loadA takeA mk Eff.isAll Eff.isNone Eff.commutes Eff.spares okPair apart eqAgg fits LK.fits allEq aveq eqk mmA
def blL (M : List (List Int)) (P : List Nat) : List (List Int) := P.map fun c => cmL M c M.length
theorem bkC_eq (M : List (List Int)) (P : List Nat) : bkC M P = (blL M P).map gs := by simp [bkC, blL]
structure KnC (J : CallF) : Prop where
  k17 : K17 J
  k21 : K21 J
  k23 : ∀ h, J 23 [] h = some (.bool true, [], false)
  k24 : K24 J
  k31 : K31 J
  k32 : K32 J
  k47 : K47 J
  k48 : K48 J
  k49 : K49 J
  k50 : K50 J
  k51 : K51 J
  k52 : K52 J
  k53 : K53 J
theorem knC : KnC T32 where
  k17 := fun h y M hy => by
    simp (disch := decide) only [T32, T31, T30, T29, T28, T27, T26, T25, T24, T23, T22, T21, T20, T19, T18, T17, T16, T15, T14, T13, T12, T11, T10, T9, T8, T7, T6, T5, T4, T3, T2, T1, addI_ne, addX_ne, addV_ne, addK_ne]
    exact k17_r h y M hy
  k21 := fun h y M hy hb => by
    simp (disch := decide) only [T32, T31, T30, T29, T28, T27, T26, T25, T24, T23, T22, T21, T20, T19, T18, T17, T16, T15, T14, T13, T12, T11, T10, T9, T8, T7, T6, T5, T4, T3, T2, T1, addI_ne, addX_ne, addV_ne, addK_ne]
    exact k21_r h y M hy hb
  k23 := fun h => by
    simp (disch := decide) only [T32, T31, T30, T29, T28, T27, T26, T25, T24, T23, T22, T21, T20, T19, T18, T17, T16, T15, T14, T13, T12, T11, T10, T9, T8, T7, T6, T5, T4, T3, T2, T1, addI_ne, addX_ne, addV_ne, addK_ne]
    exact k23_r h
  k24 := fun h x y a b hx hy hn => by
    simp (disch := decide) only [T32, T31, T30, T29, T28, T27, T26, T25, T24, T23, T22, T21, T20, T19, T18, T17, T16, T15, T14, T13, T12, T11, T10, T9, T8, T7, T6, T5, T4, T3, T2, T1, addI_ne, addX_ne, addV_ne, addK_ne]
    exact k24_r h x y a b hx hy hn
  k31 := fun h a ha => by
    simp (disch := decide) only [T32, T31, T30, T29, T28, T27, T26, T25, T24, addK_ne]
    exact k31 h a ha
  k32 := fun h a ha => by
    simp (disch := decide) only [T32, T31, T30, T29, T28, addK_ne]
    exact k32 h a ha
  k47 := fun h a ha => by
    simp (disch := decide) only [T32, T31, T30, T29, T28, T27, T26, T25, T24, T23, T22, T21, addK_ne]
    exact k47 h a ha
  k48 := fun h a ha => by
    simp (disch := decide) only [T32, addK_ne]
    exact k48 h a ha
  k49 := fun h a ha => by
    simp (disch := decide) only [T32, T31, T30, T29, addK_ne]
    exact k49 h a ha
  k50 := fun h a ha hm => by
    simp (disch := decide) only [T32, T31, T30, T29, T28, T27, T26, T25, T24, T23, addK_ne]
    exact k50 h a ha hm
  k51 := fun h a ha hm => by
    simp (disch := decide) only [T32, T31, T30, T29, T28, T27, T26, addK_ne]
    exact k51 h a ha hm
  k52 := fun h a ha hm => by
    simp (disch := decide) only [T32, T31, T30, addK_ne]
    exact k52 h a ha hm
  k53 := k53
theorem classes_law (J : CallF) (K : KnC J) (hJ : ∀ a h, J 14 a h = none) (h : Heap) {m : AV} {M : List (List Int)} (hm : MR h m M) : CallsTo tbl J 14 [m] h (.bool true, [], false) := by
  refine Tr.fnv (cf := c14) (e := .ret) (s := T.set .leaf [] m) (by decide) rfl (hJ _ _) rfl rfl rfl (by simp) ?_
  refine Tr.w fun s1 H1 hp R kR => ?_
  obtain ⟨rfl, rfl⟩ := hp
  have q : True := trivial
  have fin : ∀ s h', s.get [true] = .bool true → R .ret s h' := fun s h' a => kR _ _ ⟨[.bool true], by simp [c14, evRess, evRes, a], rfl⟩
  clear kR
  have hm0 : MR (frameOf h) m M := hm.lo []
  obtain ⟨x, own, k17, tg⟩ := K.k17 _ m M hm0
  have hx := tg.mr
  have hlN := cutM_len M
  have k23 := K.k23
  generalize cutM M = N at *
  clear tg hm0
  generalize hH1 : (frameOf h).plus own = H1 at *
  obtain ⟨v31, own31, k31, a31, b31⟩ := K.k31 H1 ⟨N, x⟩ hx
  simp only at k31 a31 b31
  cases w1 : isMat N
  · obtain ⟨rfl, rfl⟩ := a31 w1
    obtain ⟨v32, own32, k32, a32, _⟩ := K.k32 H1 ⟨N, x⟩ hx
    obtain ⟨rfl, rfl⟩ := a32 w1
    obtain ⟨v49, own49, k49, a49, _⟩ := K.k49 H1 ⟨N, x⟩ hx
    obtain ⟨rfl, rfl⟩ := a49 w1
    obtain ⟨v48, own48, k48, a48, _⟩ := K.k48 H1 ⟨N, x⟩ hx
    obtain ⟨rfl, rfl⟩ := a48 w1
    simp only at k32 k49 k48
    have k21 := K.k21 H1 x N hx (by omega)
    rw [w1] at k21
    clear b31 hx
    refine W.seq (W.chunk ?_)
    simp (disch := first | omega | exact getEq rfl | exact getO0 | exact Nat.le_of_ble_eq_true rfl) [c14_o0, app_growP, app_noneP, plus_N, plus_at0, put_plus0, put_plus1, upd_N, upd_size, q]
    refine W.seq (W.chunk ?_)
    simp (disch := first | omega | exact getEq rfl | exact getO0 | exact Nat.le_of_ble_eq_true rfl) [c14_o1, app_growP, app_noneP, plus_N, plus_at0, put_plus0, put_plus1, upd_N, upd_size, q, k17, app_if, app_if', hH1]
    refine W.seq (W.chunk ?_)
    simp (disch := first | omega | exact getEq rfl | exact getO0 | exact Nat.le_of_ble_eq_true rfl) [c14_o2, app_growP, app_noneP, plus_N, plus_at0, put_plus0, put_plus1, upd_N, upd_size, q, k31]
    refine W.seq (W.chunk ?_)
    simp (disch := first | omega | exact getEq rfl | exact getO0 | exact Nat.le_of_ble_eq_true rfl) [c14_o3, app_growP, app_noneP, plus_N, plus_at0, put_plus0, put_plus1, upd_N, upd_size, q, k32]
    refine W.seq (W.chunk ?_)
    simp (disch := first | omega | exact getEq rfl | exact getO0 | exact Nat.le_of_ble_eq_true rfl) [c14_o4, app_growP, app_noneP, plus_N, plus_at0, put_plus0, put_plus1, upd_N, upd_size, q, k49]
    refine W.seq (W.chunk ?_)
    simp (disch := first | omega | exact getEq rfl | exact getO0 | exact Nat.le_of_ble_eq_true rfl) [c14_o5, app_growP, app_noneP, plus_N, plus_at0, put_plus0, put_plus1, upd_N, upd_size, q, k48]
    refine W.assoc ?_
    refine W.seq (W.chunk ?_)
    simp (disch := first | omega | exact getEq rfl | exact getO0 | exact Nat.le_of_ble_eq_true rfl) [c14_o6, app_growP, app_noneP, plus_N, plus_at0, put_plus0, put_plus1, upd_N, upd_size, q, k21]
    refine W.seq (W.chunk ?_)
    simp (disch := first | omega | exact getEq rfl | exact getO0 | exact Nat.le_of_ble_eq_true rfl) [c14_o7, app_growP, app_noneP, plus_N, plus_at0, put_plus0, put_plus1, upd_N, upd_size, q, k23]
    exact fin _ _ (by simp [T.get])
  · have h8 := isMat_n w1
    obtain ⟨w31, rfl, ng31⟩ := b31 w1
    have kp1 : Kp (fun _ => False) H1 (H1.plus own31) := Kp.plus _ _
    have hx2 := hx.kp kp1
    generalize hH2 : H1.plus own31 = H2 at *
    obtain ⟨v32, own32, k32, _, b32⟩ := K.k32 H2 ⟨N, x⟩ hx2
    obtain ⟨w32, rfl, ng32⟩ := b32 w1
    simp only at k32 ng32
    have kp2 : Kp (fun _ => False) H2 (H2.plus own32) := Kp.plus _ _
    have hx3 := hx2.kp kp2
    generalize hH3 : H2.plus own32 = H3 at *
    obtain ⟨v49, own49, k49, _, b49⟩ := K.k49 H3 ⟨N, x⟩ hx3
    obtain ⟨w49, rfl, ng49⟩ := b49 w1
    simp only at k49 ng49
    have kp3 : Kp (fun _ => False) H3 (H3.plus own49) := Kp.plus _ _
    have hx4 := hx3.kp kp3
    generalize hH4 : H3.plus own49 = H4 at *
    obtain ⟨v48, own48, k48, _, b48⟩ := K.k48 H4 ⟨N, x⟩ hx4
    obtain ⟨w48, rfl, tb48⟩ := b48 w1
    simp only at k48 tb48
    have kp4 : Kp (fun _ => False) H4 (H4.plus own48) := Kp.plus _ _
    have hx5 := hx4.kp kp4
    generalize hH5 : H4.plus own48 = H5 at *
    have k21 := K.k21 H5 x N hx5 (by omega)
    rw [w1] at k21
    obtain ⟨w50, own50, k50, ng50⟩ := K.k50 H5 ⟨N, x⟩ hx5 w1
    simp only at k50 ng50
    have kp5 : Kp (fun _ => False) H5 (H5.plus own50) := Kp.plus _ _
    have hx6 := hx5.kp kp5
    generalize hH6 : H5.plus own50 = H6 at *
    have e1 := K.k24 H6 w31 w50 _ _ (ng31.kp (kp2.trans (kp3.trans (kp4.trans kp5)))).list ng50.list (by unfold clsL; rw [lf_len]; omega)
    rw [decide_eq_true rfl] at e1
    obtain ⟨w51, own51, k51, ng51⟩ := K.k51 H6 ⟨N, x⟩ hx6 w1
    simp only at k51 ng51
    have kp6 : Kp (fun _ => False) H6 (H6.plus own51) := Kp.plus _ _
    have hx7 := hx6.kp kp6
    generalize hH7 : H6.plus own51 = H7 at *
    have e2 := K.k24 H7 w32 w51 _ _ (ng32.kp (kp3.trans (kp4.trans (kp5.trans kp6)))).list ng51.list (by unfold pdL; rw [lf_len]; omega)
    rw [decide_eq_true rfl] at e2
    obtain ⟨w52, own52, k52, ng52⟩ := K.k52 H7 ⟨N, x⟩ hx7 w1
    simp only at k52 ng52
    have kp7 : Kp (fun _ => False) H7 (H7.plus own52) := Kp.plus _ _
    have hx8 := hx7.kp kp7
    generalize hH8 : H7.plus own52 = H8 at *
    have e3 := K.k24 H8 w49 w52 _ _ (ng49.kp (kp4.trans (kp5.trans (kp6.trans kp7)))).list ng52.list (by have := fnL_len (M := N) N.length; omega)
    rw [decide_eq_true rfl] at e3
    obtain ⟨w53, own53, k53, tb53⟩ := K.k53 H8 ⟨N, x⟩ hx8 w1
    simp only at k53 tb53
    have kp8 : Kp (fun _ => False) H8 (H8.plus own53) := Kp.plus _ _
    generalize hH9 : H8.plus own53 = H9 at *
    rw [bkC_eq] at tb48 tb53
    have ll : (seqB N).length ≤ 8 := by
      have : ∀ k, (sqB N k).length ≤ k := fun k => by
        induction k with
        | zero => exact Nat.le_refl _
        | succ k ih =>
          show (nxB N (sqB N k)).length ≤ k + 1
          unfold nxB
          split
          · rw [List.length_append, List.length_singleton]; omega
          · omega
      have := this N.length
      unfold seqB; omega
    have k47 := K.k47 H9 ⟨blL N (seqB N), blL N (seqB N), w48, w53⟩ ⟨tb48.lt.kp (kp5.trans (kp6.trans (kp7.trans kp8))), tb53.lt, by simp [blL]; omega, by simp [blL]; omega, fun l hl => by
      simp only [blL, List.mem_map] at hl
      obtain ⟨c, _, rfl⟩ := hl
      have := cmL_len (M := N) c N.length
      omega⟩
    simp only [decide_true] at k47
    clear ng31 ng32 ng49 tb48 ng50 ng51 ng52 tb53 a31 b31 b32 b49 b48 hx hx2 hx3 hx4 hx5 hx6 hx7 hx8 kp1 kp2 kp3 kp4 kp5 kp6 kp7 kp8
    refine W.seq (W.chunk ?_)
    simp (disch := first | omega | exact getEq rfl | exact getO0 | exact Nat.le_of_ble_eq_true rfl) [c14_o0, app_growP, app_noneP, plus_N, plus_at0, put_plus0, put_plus1, upd_N, upd_size, q]
    refine W.seq (W.chunk ?_)
    simp (disch := first | omega | exact getEq rfl | exact getO0 | exact Nat.le_of_ble_eq_true rfl) [c14_o1, app_growP, app_noneP, plus_N, plus_at0, put_plus0, put_plus1, upd_N, upd_size, q, k17, app_if, app_if', hH1]
    refine W.seq (W.chunk ?_)
    simp (disch := first | omega | exact getEq rfl | exact getO0 | exact Nat.le_of_ble_eq_true rfl) [c14_o2, app_growP, app_noneP, plus_N, plus_at0, put_plus0, put_plus1, upd_N, upd_size, q, k31, app_if, app_if', hH2]
    refine W.seq (W.chunk ?_)
    simp (disch := first | omega | exact getEq rfl | exact getO0 | exact Nat.le_of_ble_eq_true rfl) [c14_o3, app_growP, app_noneP, plus_N, plus_at0, put_plus0, put_plus1, upd_N, upd_size, q, k32, app_if, app_if', hH3]
    refine W.seq (W.chunk ?_)
    simp (disch := first | omega | exact getEq rfl | exact getO0 | exact Nat.le_of_ble_eq_true rfl) [c14_o4, app_growP, app_noneP, plus_N, plus_at0, put_plus0, put_plus1, upd_N, upd_size, q, k49, app_if, app_if', hH4]
    refine W.seq (W.chunk ?_)
    simp (disch := first | omega | exact getEq rfl | exact getO0 | exact Nat.le_of_ble_eq_true rfl) [c14_o5, app_growP, app_noneP, plus_N, plus_at0, put_plus0, put_plus1, upd_N, upd_size, q, k48, app_if, app_if', hH5]
    refine W.assoc ?_
    refine W.seq (W.chunk ?_)
    simp (disch := first | omega | exact getEq rfl | exact getO0 | exact Nat.le_of_ble_eq_true rfl) [c14_o6, app_growP, app_noneP, plus_N, plus_at0, put_plus0, put_plus1, upd_N, upd_size, q, k21]
    refine W.seq (W.chunk ?_)
    simp (disch := first | omega | exact getEq rfl | exact getO0 | exact Nat.le_of_ble_eq_true rfl) [c14_o7, app_growP, app_noneP, plus_N, plus_at0, put_plus0, put_plus1, upd_N, upd_size, q]
    refine W.seq (W.chunk ?_)
    simp (disch := first | omega | exact getEq rfl | exact getO0 | exact Nat.le_of_ble_eq_true rfl) [c14_o8, app_growP, app_noneP, plus_N, plus_at0, put_plus0, put_plus1, upd_N, upd_size, q, k50, e1, k51, e2, k52, e3, k53, k47, k23, app_if, app_if', hH6, hH7, hH8, hH9]
    refine W.ret ?_
    try simp only [thenW_n, thenW_e, thenW_r, blkW_n, blkW_e, blkW_r, if_true]
    exact fin _ _ (by simp [T.get])
theorem classes_ok (h : Heap) {m : AV} {M : List (List Int)} (hm : MR h m M) : CallsTo tbl T32 14 [m] h (.bool true, [], false) := classes_law T32 knC (fun _ _ => by simp (disch := decide) only [T32, T31, T30, T29, T28, T27, T26, T25, T24, T23, T22, T21, T20, T19, T18, T17, T16, T15, T14, T13, T12, T11, T10, T9, T8, T7, T6, T5, T4, T3, T2, T1, R21, R20, R19, R18, R17, R16, R15, R14, R13, R12, R11, R10, R9, R8, R7, R6, R5, R4, R3, R2, R1, addI_ne, addX_ne, addV_ne, addK_ne]; rfl) h hm
end Go.Proofs.Ytjeemgaoonapgaa.Ev
set_option linter.unusedVariables false
set_option linter.unusedSimpArgs false
namespace Go.AEv
open Go.ChangeShapes Go.WideShapes Go.Proofs.Ytjeemgaoonapgaa.Ev
theorem MR.ext {h h' : Heap} (e : Ext h h') {y : AV} {M : List (List Int)} (m : MR h y M) : MR h' y M := by
  rcases m with m | ⟨b, v, cs, rfl, g, hl, hr⟩
  · exact .inl m
  · refine .inr ⟨b, v, cs, rfl, e _ _ g (by simp), hl, fun i r q => ?_⟩
    obtain ⟨l, h1, h2⟩ := hr i r q
    exact ⟨l, h1, LR.ext e h2⟩
theorem rows_lo {CK : CKT} {w : World} {H : Type} {enc : TypeId × Value → H} {P : Program} {e i : TypeId} (he : P.underlying e = some (.slice i)) (hi : P.underlying i = some (.int .i64)) (hc : P.cellsOf i = 1) :
    ∀ (vs : List Value) {φ : Nat → Emb} {h : Heap} (ho : h.own = []) (hr : HR CK w [] φ h w), (∀ u ∈ vs, ∃ fuel z, DataW.trod enc P w 0 (fun _ => true) true fuel e [u] = some z) →
    ∃ φ' h', ∃ (rs : List AV) (ls : List (List Int)), h'.own = [] ∧ HR CK w [] φ' h' w ∧ Stp φ h φ' h' ∧ Ext h h' ∧ rs.length = vs.length ∧ ls.length = vs.length ∧ ∀ (j : Nat) u r, vs[j]? = some u → rs[j]? = some r → VR φ' h' r u ∧ Value.oneCell' u = true ∧ ∃ l, ls[j]? = some l ∧ LR h' r l
  | [], φ, h, ho, hr, _ => ⟨φ, h, [], [], ho, hr, Stp.refl φ h, Ext.refl h, rfl, rfl, fun j u r q => by simp at q⟩
  | u :: us, φ, h, ho, hr, ht => by
    obtain ⟨fuel, z, hf⟩ := ht u (by simp)
    obtain ⟨φ1, h1, x, l, o1, r1, s1, e1, v1, p1, c1⟩ := ints_lo0 ho hr he hi hc hf
    obtain ⟨φ2, h2, rs, ls, o2, r2, s2, e2, l1, l2, q⟩ := rows_lo he hi hc us o1 r1 (fun u' hu => ht u' (by simp [hu]))
    refine ⟨φ2, h2, x :: rs, l :: ls, o2, r2, s1.trans s2, e1.trans e2, by simp [l1], by simp [l2], fun j u' r hu hr' => ?_⟩
    cases j with
    | zero =>
      simp only [List.getElem?_cons_zero, Option.some.injEq] at hu hr'
      subst hu hr'
      exact ⟨VR.step s2 _ _ v1, c1, l, rfl, p1.ext e2⟩
    | succ j =>
      simp only [List.getElem?_cons_succ] at hu hr' ⊢
      exact q j u' r hu hr'
theorem mat_lo {CK : CKT} {φ : Nat → Emb} {h : Heap} {w : World} (ho : h.own = []) (hr : HR CK w [] φ h w) {H : Type} {enc : TypeId × Value → H} {P : Program} {t e i : TypeId} {v : Value} {d : DataW H} {p : List MemPlace}
    (ht : P.underlying t = some (.slice e)) (he : P.underlying e = some (.slice i)) (hi : P.underlying i = some (.int .i64)) (hce : P.cellsOf e = 1) (hci : P.cellsOf i = 1) (hvs : ∃ a len cap, v = .slice a len cap) (k : DataW.Trod enc P w 0 (fun _ => true) true t v d p) :
    ∃ φ' h' x M, h'.own = [] ∧ HR CK w [] φ' h' w ∧ Stp φ h φ' h' ∧ Ext h h' ∧ VR φ' h' x v ∧ MR h' x M := by
  obtain ⟨va, vl, vc, rfl⟩ := hvs
  obtain ⟨fuel, hf⟩ := k
  rcases DataW.trod_slice ht hf with ⟨hcs, _⟩ | ⟨a, len, cap, elems, rest, n, _, hcs, _, _, hl, hm, hlen, hel, hsp, _⟩
  · have hcs' : Value.slice va vl vc = .slice none 0 0 := (List.cons.inj hcs).1
    rw [hcs']
    exact ⟨φ, h, .nils, [], ho, hr, Stp.refl φ h, Ext.refl h, by simp [VR], .inl ⟨.inl rfl, rfl⟩⟩
  · have hcs' : Value.slice va vl vc = .slice (some a) len cap := (List.cons.inj hcs).1
    rw [hcs']
    by_cases h0 : len = 0
    · subst h0
      exact ⟨φ, h, .slice0, [], ho, hr, Stp.refl φ h, Ext.refl h, by simp [VR], .inl ⟨.inr rfl, rfl⟩⟩
    · obtain ⟨hrl, hre⟩ := hsp rfl
      have each : ∀ j, j < cap → ∃ u, w.cell? (a.add j) = some u ∧ ∃ z, DataW.trod enc P w 0 (fun _ => true) true n e [u] = some z := fun j hj => by
        have hb' : ∃ y, (w.cells? 0 (a.add (j * P.cellsOf e)) (P.cellsOf e)).bind (DataW.trod enc P w 0 (fun _ => true) true n e) = some y := by
          by_cases hjl : j < len
          · rw [hel j hjl, List.getElem?_eq_getElem (by omega)]; exact ⟨_, rfl⟩
          · have := hre (j - len) (by omega)
            rw [show len + (j - len) = j by omega] at this
            rw [this, List.getElem?_eq_getElem (by omega)]; exact ⟨_, rfl⟩
        obtain ⟨y, hy⟩ := hb'
        rw [hce, Nat.mul_one, Option.bind_eq_some_iff] at hy
        obtain ⟨cs', h1, h2⟩ := hy
        have hl1 := (World.cells?_some h1).2.1
        obtain ⟨u, rfl⟩ : ∃ u, cs' = [u] := by
          cases cs' with
          | nil => simp at hl1
          | cons u r => cases r with
            | nil => exact ⟨u, rfl⟩
            | cons u' r => simp at hl1
        exact ⟨u, cell_of_cells?_one h1, y, h2⟩
      obtain ⟨f, hfe⟩ : ∃ f : Nat → Value, ∀ j, j < cap → w.cell? (a.add j) = some (f j) ∧ ∃ z, DataW.trod enc P w 0 (fun _ => true) true n e [f j] = some z :=
        ⟨fun j => if hj : j < cap then Classical.choose (each j hj) else .nilFunc, fun j hj => by
          simp only [dif_pos hj]
          exact Classical.choose_spec (each j hj)⟩
      obtain ⟨b, off, spot⟩ := a
      have hspot : spot = none := by simpa [Addr.add] using World.cell?_spot (hfe 0 (by omega)).1
      subst hspot
      have hcell : ∀ j, j < cap → w.cell? ⟨b, off + j, none⟩ = some (f j) := fun j hj => by rw [← Go.WideShapes.add_plain]; exact (hfe j hj).1
      obtain ⟨c, ty, fr, hb, hc0⟩ := cell_obj (hcell 0 (by omega))
      have hcj : ∀ j, j < cap → c[off + j]? = some (f j) := fun j hj => by
        obtain ⟨c', ty', fr', hb', hcj⟩ := cell_obj (hcell j hj)
        rw [hb] at hb'
        simp only [Option.some.injEq, Obj.cells.injEq] at hb'
        obtain ⟨rfl, _⟩ := hb'
        exact hcj
      have hsize : off + cap ≤ c.size := by
        have := (Array.getElem?_eq_some_iff.1 (hcj (cap - 1) (by omega))).1
        omega
      obtain ⟨φ1, h1, rs, ls, o1, r1, s1, e1, l1, l2, q⟩ := rows_lo he hi hci ((List.range len).map f) ho hr (fun u hu => by
        obtain ⟨j, hj, rfl⟩ := List.mem_map.1 hu
        obtain ⟨z, hz⟩ := (hfe j (by have := List.mem_range.1 hj; omega)).2
        exact ⟨n, z, hz⟩)
      simp only [List.length_map, List.length_range] at l1 l2
      have hat : ∀ j, j < len → ((List.range len).map f)[j]? = some (f j) := fun j hj => by simp [hj]
      refine ⟨AEv.upd φ1 h1.N ⟨b, off, cap⟩, h1.more (.cells 1 len rs), .slice h1.N 0 len len, ls, rfl, lo_add o1 r1 _ _ ?_, s1.trans (lo_stp o1 _ _), e1.trans (more_ext h1 o1 _), ?_, .inr ⟨h1.N, len, rs, by rw [l2], more_at _ _, by omega, fun j r hr' => ?_⟩⟩
      · refine ⟨c, ty, fr, hb, hsize, by show rs.length ≤ cap; omega, fun j x hx => ?_⟩
        have hj : j < len := by have := (List.getElem?_eq_some_iff.1 hx).1; omega
        obtain ⟨q1, q2, _⟩ := q j (f j) x (hat j hj) hx
        exact ⟨f j, hcj j (by omega), VR.step (lo_stp o1 _ _) _ _ q1, q2⟩
      · simp only [VR]
        exact ⟨_, cap, 1, len, _, rfl, hl, more_at _ _, Nat.le_refl _, fun _ => ⟨by simp [AEv.upd], fun _ _ => by simp [AEv.upd]⟩⟩
      · have hj : j < len := by have := (List.getElem?_eq_some_iff.1 hr').1; omega
        obtain ⟨_, _, l, q3, q4⟩ := q j (f j) r (hat j hj) hr'
        exact ⟨l, q3, q4.ext (more_ext h1 o1 _)⟩
end Go.AEv
