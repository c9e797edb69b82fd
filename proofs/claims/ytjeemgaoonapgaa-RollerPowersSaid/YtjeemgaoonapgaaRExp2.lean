/-
  What the reference's Exponent answers, and what is known of both. No condition.
-/
import Derived.Test.YtjeemgaoonapgaaRExp
set_option linter.unusedVariables false
set_option linter.unusedSimpArgs false
namespace Go.Proofs.Ytjeemgaoonapgaa.Ev
open Go Go.AEv

attribute [local simp] evFunc initS evOps_c evTrim_c evSkip_c evExit_c evRet_c evSeq_c evCond_c evBlock_c evDraw_c runOps_n runOps_c exec_n exec_g pure1_c act AOpd.ev T.get T.set T.put evBin evUn forceT_eq forceV_eq forceL_eq evRess evRes one keep runFP_n runFP_c app_none AV.flats AV.flat came_some List.getElem?_cons_zero List.getElem?_cons_succ beqT wrapI idxI tdivI tmodI decT decF ibT ibF inT inF evScope_c if_pos if_neg Cm_some thenW_n thenW_e thenW_r blkW_n blkW_e blkW_r goI kn putAt AV.cells fillA loadA takeA mk Eff.isAll Eff.isNone Eff.commutes Eff.spares okPair apart eqAgg fits LK.fits allEq aveq eqk mmA

section
variable {M : List (List Int)}
def aJ (M : List (List Int)) (k i : Nat) (a : Bool) (j : Nat) : Bool := a && (List.range j).all fun j' => cw M j' k i
def aI (M : List (List Int)) (k i : Nat) : Bool := (List.range i).all fun i' => (List.range M.length).all fun j' => cw M j' k i'
theorem aJ_s (k i : Nat) (a : Bool) (j : Nat) : aJ M k i a (j + 1) = (aJ M k i a j && cw M j k i) := by
  unfold aJ; rw [List.range_succ, List.all_append, List.all_cons, List.all_nil, Bool.and_true, Bool.and_assoc]
theorem aI_s (k i : Nat) : aI M k (i + 1) = aJ M k i (aI M k i) M.length := by
  unfold aI aJ; rw [List.range_succ, List.all_append, List.all_cons, List.all_nil, Bool.and_true]
theorem aI_n (k : Nat) : aI M k M.length = fullB M k := rfl
theorem c44_j (J : CallF) (k36 : K36 J) (hm : isMat M = true) {H0 : Heap} {b v i k : Nat} {cs : List AV} (mx : MX H0 M b v cs) (hy : ∀ H, Kp (fun _ => False) H0 H → MR H (.slice b 0 M.length v) M) (hi : i < M.length) (hk : k ≤ 100) (a : Bool) :
    Tr tbl J c44_l0 (fun s h => Kp (fun _ => False) H0 h ∧ s.get [] = .slice b 0 M.length v ∧ s.get [true, false] = G M.length ∧ s.get [false, true] = G k ∧ s.get [true, true] = .bool (aJ M k i a 0) ∧ s.get [false, false, false] = G i ∧ s.get [true, false, false] = G ((0 : Nat) : Int)) (.exit 4)
      (fun s h => Kp (fun _ => False) H0 h ∧ s.get [] = .slice b 0 M.length v ∧ s.get [true, false] = G M.length ∧ s.get [false, true] = G k ∧ s.get [true, true] = .bool (aJ M k i a M.length) ∧ s.get [false, false, false] = G i) := by
  have h8 := isMat_n hm
  refine Tr.rounds (P := fun j s h => Kp (fun _ => False) H0 h ∧ s.get [] = .slice b 0 M.length v ∧ s.get [true, false] = G M.length ∧ s.get [false, true] = G k ∧ s.get [true, true] = .bool (aJ M k i a j) ∧ s.get [false, false, false] = G i ∧ s.get [true, false, false] = G j) (M := M.length) (fun j hj => ?_) ?_ (by simp) 0 (by omega)
  · refine Tr.w fun s1 H1 hp R kR => W.trim ?_
    obtain ⟨kp, q⟩ := hp
    obtain ⟨w, own, e36, p1, p2⟩ := k36 H1 ⟨M, _, i, j, k⟩ ⟨hy H1 kp, hm, hi, hj, hk⟩
    have ht : ∃ x, w = .tup [x, .bool (cw M j k i)] := by
      cases c : cw M j k i
      · exact ⟨_, (p1 c).1⟩
      · obtain ⟨x, e, _⟩ := p2 c; exact ⟨x, e⟩
    obtain ⟨x, rfl⟩ := ht
    simp only at e36
    have kp2 : Kp (fun _ => False) H0 (H1.plus own) := kp.trans (Kp.plus _ _)
    simp only [aJ_s] at kR
    clear p1 p2 mx hy
    generalize cw M j k i = c at *
    generalize aJ M k i a j = a1 at *
    generalize M.length = n at *
    cases a1
    all_goals
      refine W.assoc ?_
      refine W.seq (W.chunk ?_)
      simp (disch := first | omega | exact getEq rfl | exact getO0 | exact Nat.le_of_ble_eq_true rfl) [c44_o8, app_growP, app_noneP, plus_N, plus_at0, put_plus0, put_plus1, upd_N, upd_size, q]
      refine W.seq (W.chunk ?_)
      simp (disch := first | omega | exact getEq rfl | exact getO0 | exact Nat.le_of_ble_eq_true rfl) [app_growP, app_noneP, plus_N, plus_at0, put_plus0, put_plus1, upd_N, upd_size, q]
      refine W.seq (W.block ?_)
      refine W.seq (W.chunk ?_)
      simp (disch := first | omega | exact getEq rfl | exact getO0 | exact Nat.le_of_ble_eq_true rfl) [c44_o9, app_growP, app_noneP, plus_N, plus_at0, put_plus0, put_plus1, upd_N, upd_size, q, e36, app_if, app_if']
      refine W.chunk ?_
      simp (disch := first | omega | exact getEq rfl | exact getO0 | exact Nat.le_of_ble_eq_true rfl) [c44_o10, app_growP, app_noneP, plus_N, plus_at0, put_plus0, put_plus1, upd_N, upd_size, q]
      refine W.chunk ?_
      simp (disch := first | omega | exact getEq rfl | exact getO0 | exact Nat.le_of_ble_eq_true rfl) [c44_o11, app_growP, app_noneP, plus_N, plus_at0, put_plus0, put_plus1, upd_N, upd_size, q]
      exact kR _ _ ⟨kp2, by simp [T.get, q]⟩
  · refine Tr.w fun s1 H1 hp R kR => W.trim ?_
    obtain ⟨kp, q⟩ := hp
    clear mx hy
    generalize M.length = n at *
    refine W.assoc ?_
    refine W.seq (W.chunk ?_)
    simp (disch := first | omega | exact getEq rfl | exact getO0 | exact Nat.le_of_ble_eq_true rfl) [c44_o8, app_growP, app_noneP, plus_N, plus_at0, put_plus0, put_plus1, upd_N, upd_size, q]
    refine W.seq (W.chunk ?_)
    simp (disch := first | omega | exact getEq rfl | exact getO0 | exact Nat.le_of_ble_eq_true rfl) [app_growP, app_noneP, plus_N, plus_at0, put_plus0, put_plus1, upd_N, upd_size, q]
    exact kR _ _ ⟨kp, by simp [T.get, q]⟩
theorem c44_i (J : CallF) (k36 : K36 J) (hm : isMat M = true) {H0 : Heap} {b v k : Nat} {cs : List AV} (mx : MX H0 M b v cs) (hy : ∀ H, Kp (fun _ => False) H0 H → MR H (.slice b 0 M.length v) M) (hk : k ≤ 100) :
    Tr tbl J c44_l1 (fun s h => Kp (fun _ => False) H0 h ∧ s.get [] = .slice b 0 M.length v ∧ s.get [true, false] = G M.length ∧ s.get [false, true] = G k ∧ s.get [true, true] = .bool (aI M k 0) ∧ s.get [false, false, false] = G ((0 : Nat) : Int)) (.exit 2)
      (fun s h => Kp (fun _ => False) H0 h ∧ s.get [] = .slice b 0 M.length v ∧ s.get [true, false] = G M.length ∧ s.get [false, true] = G k ∧ s.get [true, true] = .bool (aI M k M.length)) := by
  have h8 := isMat_n hm
  refine Tr.rounds (P := fun i s h => Kp (fun _ => False) H0 h ∧ s.get [] = .slice b 0 M.length v ∧ s.get [true, false] = G M.length ∧ s.get [false, true] = G k ∧ s.get [true, true] = .bool (aI M k i) ∧ s.get [false, false, false] = G i) (M := M.length) (fun i hi => ?_) ?_ (by simp) 0 (by omega)
  · refine Tr.w fun s1 H1 hp R kR => W.trim ?_
    obtain ⟨kp, q⟩ := hp
    have l0 := c44_j J k36 hm mx hy hi hk (aI M k i)
    have e0 : aJ M k i (aI M k i) 0 = aI M k i := by unfold aJ; simp
    rw [e0, ← aI_s] at l0
    clear mx hy
    generalize aI M k (i + 1) = a2 at *
    generalize aI M k i = a1 at *
    generalize M.length = n at *
    refine W.assoc ?_
    refine W.seq (W.chunk ?_)
    simp (disch := first | omega | exact getEq rfl | exact getO0 | exact Nat.le_of_ble_eq_true rfl) [c44_o6, app_growP, app_noneP, plus_N, plus_at0, put_plus0, put_plus1, upd_N, upd_size, q]
    refine W.seq (W.chunk ?_)
    simp (disch := first | omega | exact getEq rfl | exact getO0 | exact Nat.le_of_ble_eq_true rfl) [app_growP, app_noneP, plus_N, plus_at0, put_plus0, put_plus1, upd_N, upd_size, q]
    refine W.seq (W.block ?_)
    refine W.seq (W.chunk ?_)
    simp (disch := first | omega | exact getEq rfl | exact getO0 | exact Nat.le_of_ble_eq_true rfl) [c44_o7, app_growP, app_noneP, plus_N, plus_at0, put_plus0, put_plus1, upd_N, upd_size, q]
    refine W.block ?_
    refine W.use (l0) (by simp (disch := first | omega | exact getEq rfl | exact getO0 | exact Nat.le_of_ble_eq_true rfl) [app_growP, app_noneP, plus_N, plus_at0, put_plus0, put_plus1, upd_N, upd_size, q, kp]) fun s1 H1 hp => ?_
    obtain ⟨kp2, q⟩ := hp
    try simp only [thenW_n, thenW_e, thenW_r, blkW_n, blkW_e, blkW_r, if_true]
    refine W.chunk ?_
    simp (disch := first | omega | exact getEq rfl | exact getO0 | exact Nat.le_of_ble_eq_true rfl) [c44_o12, app_growP, app_noneP, plus_N, plus_at0, put_plus0, put_plus1, upd_N, upd_size, q]
    exact kR _ _ ⟨kp2, by simp [T.get, q]⟩
  · refine Tr.w fun s1 H1 hp R kR => W.trim ?_
    obtain ⟨kp, q⟩ := hp
    clear mx hy
    generalize M.length = n at *
    refine W.assoc ?_
    refine W.seq (W.chunk ?_)
    simp (disch := first | omega | exact getEq rfl | exact getO0 | exact Nat.le_of_ble_eq_true rfl) [c44_o6, app_growP, app_noneP, plus_N, plus_at0, put_plus0, put_plus1, upd_N, upd_size, q]
    refine W.seq (W.chunk ?_)
    simp (disch := first | omega | exact getEq rfl | exact getO0 | exact Nat.le_of_ble_eq_true rfl) [app_growP, app_noneP, plus_N, plus_at0, put_plus0, put_plus1, upd_N, upd_size, q]
    exact kR _ _ ⟨kp, by simp [T.get, q]⟩
theorem c44_k (J : CallF) (k36 : K36 J) (hm : isMat M = true) {H0 : Heap} {b v : Nat} {cs : List AV} (mx : MX H0 M b v cs) (hy : ∀ H, Kp (fun _ => False) H0 H → MR H (.slice b 0 M.length v) M) : ∀ d k, 1 ≤ k → k + d = exM M.length + 1 →
    (fva (fullB M) d k ≤ exM M.length → Tr tbl J c44_l2 (fun s h => Kp (fun _ => False) H0 h ∧ s.get [] = .slice b 0 M.length v ∧ s.get [true, false] = G M.length ∧ s.get [false, true] = G k) .ret (fun s h => s.get [true] = G (fva (fullB M) d k) ∧ s.get [false, false] = .bool true)) ∧
    (exM M.length < fva (fullB M) d k → Tr tbl J c44_l2 (fun s h => Kp (fun _ => False) H0 h ∧ s.get [] = .slice b 0 M.length v ∧ s.get [true, false] = G M.length ∧ s.get [false, true] = G k) (.exit 0) (fun _ _ => True)) := by
  have h8 := isMat_n hm
  obtain ⟨b1, b2, b3⟩ := exM_bd h8
  have be : ((exM M.length - 1 : Nat) : Int) + 1 = (exM M.length : Int) := by omega
  have bl : -9223372036854775808 ≤ ((exM M.length - 1 : Nat) : Int) ∧ ((exM M.length - 1 : Nat) : Int) < 9223372036854775808 := by omega
  intro d
  induction d with
  | zero =>
    intro k k1 hk
    refine ⟨fun c => by simp [fva] at c; omega, fun _ => Tr.out ?_ (by simp)⟩
    clear mx hy
    generalize M.length = n at *
    refine Tr.w fun s1 H1 hp R kR => W.trim ?_
    obtain ⟨kp, q⟩ := hp
    refine W.assoc ?_
    refine W.seq (W.chunk ?_)
    simp (disch := first | omega | exact getEq rfl | exact getO0 | exact Nat.le_of_ble_eq_true rfl) [c44_o3, app_growP, app_noneP, plus_N, plus_at0, put_plus0, put_plus1, upd_N, upd_size, q, b3, be]
    refine W.seq (W.chunk ?_)
    simp (disch := first | omega | exact getEq rfl | exact getO0 | exact Nat.le_of_ble_eq_true rfl) [app_growP, app_noneP, plus_N, plus_at0, put_plus0, put_plus1, upd_N, upd_size, q]
    exact kR _ _ trivial
  | succ d ih =>
    intro k k1 hk
    obtain ⟨ih1, ih2⟩ := ih (k + 1) (by omega) (by omega)
    have l1 := c44_i (k := k) J k36 hm mx hy (by omega)
    rw [aI_n, show aI M k 0 = true from rfl] at l1
    have e : fva (fullB M) (d + 1) k = if fullB M k then k else fva (fullB M) d (k + 1) := rfl
    rw [e]
    clear mx hy
    cases c : fullB M k
    · rw [c] at l1
      have step : Tr tbl J (.trim [[], [true, false], [false, true]] c44_b2) (fun s h => Kp (fun _ => False) H0 h ∧ s.get [] = .slice b 0 M.length v ∧ s.get [true, false] = G M.length ∧ s.get [false, true] = G k) .normal (fun s h => Kp (fun _ => False) H0 h ∧ s.get [] = .slice b 0 M.length v ∧ s.get [true, false] = G M.length ∧ s.get [false, true] = G ((k + 1 : Nat) : Int)) := by
        generalize M.length = n at *
        refine Tr.w fun s1 H1 hp R kR => W.trim ?_
        obtain ⟨kp, q⟩ := hp
        refine W.assoc ?_
        refine W.seq (W.chunk ?_)
        simp (disch := first | omega | exact getEq rfl | exact getO0 | exact Nat.le_of_ble_eq_true rfl) [c44_o3, app_growP, app_noneP, plus_N, plus_at0, put_plus0, put_plus1, upd_N, upd_size, q, b3, be]
        refine W.seq (W.chunk ?_)
        simp (disch := first | omega | exact getEq rfl | exact getO0 | exact Nat.le_of_ble_eq_true rfl) [app_growP, app_noneP, plus_N, plus_at0, put_plus0, put_plus1, upd_N, upd_size, q]
        refine W.seq (W.block ?_)
        refine W.seq (W.chunk ?_)
        simp (disch := first | omega | exact getEq rfl | exact getO0 | exact Nat.le_of_ble_eq_true rfl) [c44_o4, app_growP, app_noneP, plus_N, plus_at0, put_plus0, put_plus1, upd_N, upd_size, q]
        refine W.assoc ?_
        refine W.seq (W.chunk ?_)
        simp (disch := first | omega | exact getEq rfl | exact getO0 | exact Nat.le_of_ble_eq_true rfl) [c44_o5, app_growP, app_noneP, plus_N, plus_at0, put_plus0, put_plus1, upd_N, upd_size, q]
        refine W.seq (W.block ?_)
        refine W.use (l1) (by simp (disch := first | omega | exact getEq rfl | exact getO0 | exact Nat.le_of_ble_eq_true rfl) [app_growP, app_noneP, plus_N, plus_at0, put_plus0, put_plus1, upd_N, upd_size, q, kp]) fun s1 H1 hp => ?_
        obtain ⟨kp2, q⟩ := hp
        try simp only [thenW_n, thenW_e, thenW_r, blkW_n, blkW_e, blkW_r, if_true]
        refine W.seq (W.chunk ?_)
        simp (disch := first | omega | exact getEq rfl | exact getO0 | exact Nat.le_of_ble_eq_true rfl) [c44_o13, app_growP, app_noneP, plus_N, plus_at0, put_plus0, put_plus1, upd_N, upd_size, q]
        refine W.chunk ?_
        simp (disch := first | omega | exact getEq rfl | exact getO0 | exact Nat.le_of_ble_eq_true rfl) [c44_o14, app_growP, app_noneP, plus_N, plus_at0, put_plus0, put_plus1, upd_N, upd_size, q]
        refine W.chunk ?_
        simp (disch := first | omega | exact getEq rfl | exact getO0 | exact Nat.le_of_ble_eq_true rfl) [c44_o15, app_growP, app_noneP, plus_N, plus_at0, put_plus0, put_plus1, upd_N, upd_size, q]
        exact kR _ _ ⟨kp2, by simp [T.get, q]⟩
      exact ⟨fun q => Tr.next step (ih1 q), fun q => Tr.next step (ih2 q)⟩
    · rw [c] at l1
      refine ⟨fun _ => Tr.out ?_ (by simp), fun hc => by simp at hc; omega⟩
      generalize M.length = n at *
      refine Tr.w fun s1 H1 hp R kR => W.trim ?_
      obtain ⟨kp, q⟩ := hp
      refine W.assoc ?_
      refine W.seq (W.chunk ?_)
      simp (disch := first | omega | exact getEq rfl | exact getO0 | exact Nat.le_of_ble_eq_true rfl) [c44_o3, app_growP, app_noneP, plus_N, plus_at0, put_plus0, put_plus1, upd_N, upd_size, q, b3, be]
      refine W.seq (W.chunk ?_)
      simp (disch := first | omega | exact getEq rfl | exact getO0 | exact Nat.le_of_ble_eq_true rfl) [app_growP, app_noneP, plus_N, plus_at0, put_plus0, put_plus1, upd_N, upd_size, q]
      refine W.seq (W.block ?_)
      refine W.seq (W.chunk ?_)
      simp (disch := first | omega | exact getEq rfl | exact getO0 | exact Nat.le_of_ble_eq_true rfl) [c44_o4, app_growP, app_noneP, plus_N, plus_at0, put_plus0, put_plus1, upd_N, upd_size, q]
      refine W.assoc ?_
      refine W.seq (W.chunk ?_)
      simp (disch := first | omega | exact getEq rfl | exact getO0 | exact Nat.le_of_ble_eq_true rfl) [c44_o5, app_growP, app_noneP, plus_N, plus_at0, put_plus0, put_plus1, upd_N, upd_size, q]
      refine W.seq (W.block ?_)
      refine W.use (l1) (by simp (disch := first | omega | exact getEq rfl | exact getO0 | exact Nat.le_of_ble_eq_true rfl) [app_growP, app_noneP, plus_N, plus_at0, put_plus0, put_plus1, upd_N, upd_size, q, kp]) fun s1 H1 hp => ?_
      obtain ⟨kp2, q⟩ := hp
      try simp only [thenW_n, thenW_e, thenW_r, blkW_n, blkW_e, blkW_r, if_true]
      refine W.seq (W.chunk ?_)
      simp (disch := first | omega | exact getEq rfl | exact getO0 | exact Nat.le_of_ble_eq_true rfl) [c44_o13, app_growP, app_noneP, plus_N, plus_at0, put_plus0, put_plus1, upd_N, upd_size, q]
      refine W.chunk ?_
      simp (disch := first | omega | exact getEq rfl | exact getO0 | exact Nat.le_of_ble_eq_true rfl) [c44_o14, app_growP, app_noneP, plus_N, plus_at0, put_plus0, put_plus1, upd_N, upd_size, q]
      exact kR _ _ (by simp [T.get, q])
theorem c44_ok (J : CallF) (k36 : K36 J) (hJ : ∀ a h, J 44 a h = none) (h : Heap) {y : AV} (hy : MR h y M) (hm : isMat M = true) : CallsTo tbl J 44 [y] h (if exB M then .tup [G (exN M), .bool true] else .tup [G 0, .bool false], [], false) := by
  refine Tr.fnv (cf := c44) (e := .ret) (s := T.set .leaf [] y) (by decide) rfl (hJ _ _) rfl rfl (by split; all_goals rfl) (by simp) ?_
  have h8 := isMat_n hm
  have hy0 : MR (frameOf h) y M := hy.lo []
  obtain ⟨b, v, cs, rfl, mx⟩ := hy0.mx hm
  obtain ⟨b1, b2, b3⟩ := exM_bd h8
  obtain ⟨l1, l2⟩ := c44_k J k36 hm mx (fun H kp => hy0.kp kp) (exM M.length) 1 (Nat.le_refl _) (by omega)
  have en : fva (fullB M) (exM M.length) 1 = exN M := rfl
  rw [en] at l1 l2
  have kp := Kp.refl (M := fun _ => False) (frameOf h)
  refine Tr.w fun s1 H1 hp R kR => ?_
  obtain ⟨rfl, rfl⟩ := hp
  have q : True := trivial
  have fin : ∀ (a : Int) (b : Bool), (if exB M then AV.tup [G (exN M), .bool true] else .tup [G 0, .bool false]) = .tup [G a, .bool b] → ∀ s h', s.get [true] = G a → s.get [false, false] = .bool b → R .ret s h' := fun a b e s h' x y => kR _ _ ⟨[G a, .bool b], by simp [c44, evRess, evRes, x, y], e.symm⟩
  clear kR mx
  by_cases c : exN M ≤ exM M.length
  · have l1 := l1 c
    have cb : exB M = true := decide_eq_true c
    refine W.seq (W.chunk ?_)
    simp (disch := first | omega | exact getEq rfl | exact getO0 | exact Nat.le_of_ble_eq_true rfl) [c44_o0, app_growP, app_noneP, plus_N, plus_at0, put_plus0, put_plus1, upd_N, upd_size, q]
    refine W.seq (W.chunk ?_)
    simp (disch := first | omega | exact getEq rfl | exact getO0 | exact Nat.le_of_ble_eq_true rfl) [c44_o1, app_growP, app_noneP, plus_N, plus_at0, put_plus0, put_plus1, upd_N, upd_size, q]
    refine W.assoc ?_
    refine W.seq (W.chunk ?_)
    simp (disch := first | omega | exact getEq rfl | exact getO0 | exact Nat.le_of_ble_eq_true rfl) [c44_o2, app_growP, app_noneP, plus_N, plus_at0, put_plus0, put_plus1, upd_N, upd_size, q]
    refine W.seq (W.block ?_)
    refine W.use (l1) (by simp (disch := first | omega | exact getEq rfl | exact getO0 | exact Nat.le_of_ble_eq_true rfl) [app_growP, app_noneP, plus_N, plus_at0, put_plus0, put_plus1, upd_N, upd_size, q, kp]) fun s1 H1 hp => ?_
    obtain ⟨q1, q2⟩ := hp
    try simp only [thenW_n, thenW_e, thenW_r, blkW_n, blkW_e, blkW_r, if_true]
    exact fin _ _ (by rw [if_pos cb]) _ _ q1 q2
  · have l2 := l2 (by omega)
    have cb : exB M = false := decide_eq_false c
    refine W.seq (W.chunk ?_)
    simp (disch := first | omega | exact getEq rfl | exact getO0 | exact Nat.le_of_ble_eq_true rfl) [c44_o0, app_growP, app_noneP, plus_N, plus_at0, put_plus0, put_plus1, upd_N, upd_size, q]
    refine W.seq (W.chunk ?_)
    simp (disch := first | omega | exact getEq rfl | exact getO0 | exact Nat.le_of_ble_eq_true rfl) [c44_o1, app_growP, app_noneP, plus_N, plus_at0, put_plus0, put_plus1, upd_N, upd_size, q]
    refine W.assoc ?_
    refine W.seq (W.chunk ?_)
    simp (disch := first | omega | exact getEq rfl | exact getO0 | exact Nat.le_of_ble_eq_true rfl) [c44_o2, app_growP, app_noneP, plus_N, plus_at0, put_plus0, put_plus1, upd_N, upd_size, q]
    refine W.seq (W.block ?_)
    refine W.use (l2) (by simp (disch := first | omega | exact getEq rfl | exact getO0 | exact Nat.le_of_ble_eq_true rfl) [app_growP, app_noneP, plus_N, plus_at0, put_plus0, put_plus1, upd_N, upd_size, q, kp]) fun s1 H1 hp => ?_
    try simp only [thenW_n, thenW_e, thenW_r, blkW_n, blkW_e, blkW_r, if_true]
    refine W.seq (W.chunk ?_)
    simp (disch := first | omega | exact getEq rfl | exact getO0 | exact Nat.le_of_ble_eq_true rfl) [c44_o16, app_growP, app_noneP, plus_N, plus_at0, put_plus0, put_plus1, upd_N, upd_size, q]
    refine W.ret ?_
    try simp only [thenW_n, thenW_e, thenW_r, blkW_n, blkW_e, blkW_r, if_true]
    exact fin 0 false (by rw [cb]; rfl) _ _ (by simp [T.get]) (by simp [T.get])
end

/-! ### What is known -/
theorem k65_t9 : K65 T9 := fun r q h => by
  simp (disch := decide) only [T9, T8, T7, T6, T5, T4, T3, T2, T1, R21, R20, R19, R18, R17, R16, R15, R14, R13, R12, R11, R10, R9, R8, R7, R6, R5, R4, R3, R2, R1, addI_ne, addX_ne, addV_ne, addK_ne]
  exact k65 r q h
theorem k54_t9 : K54 T9 := fun h y M hy => by
  simp (disch := decide) only [T9, T8, T7, T6, T5, T4, T3, T2, T1, R21, R20, R19, R18, R17, R16, R15, R14, R13, R12, R11, R10, R9, R8, R7, R6, R5, R4, R3, R2, R1, addI_ne, addX_ne, addV_ne, addK_ne]
  exact k54 h y M hy
theorem k64_t9 : K64 T9 := fun h M hm => by
  simp (disch := decide) only [T9, T8, T7, T6, T5, addX_ne, addK_ne]
  exact k64 h M hm
structure AM where
  M : List (List Int)
  y : AV
def PreM (a : AM) (args : List AV) (h : Heap) : Prop := MR h a.y a.M ∧ args = [a.y]
def Post34 (a : AM) (h : Heap) (v : AV) (own : List AObj) : Prop := v = (if isMat a.M then (if exB a.M then .tup [G (exN a.M), G 0] else .tup [G 0, G 6]) else .tup [G 0, G 2]) ∧ own = []
noncomputable def T10 : CallF := addK tbl T9 34 PreM Post34
theorem t10 : Sound Go.Proofs.Try.prog T10 := Sound.addK follows ok t9 (by decide) _ _
abbrev K34 (J : CallF) : Prop := ∀ (h : Heap) (a : AM), MR h a.y a.M → J 34 [a.y] h = some (if isMat a.M then (if exB a.M then .tup [G (exN a.M), G 0] else .tup [G 0, G 6]) else .tup [G 0, G 2], [], false)
theorem k34 : K34 T10 := fun h a ha => by
  obtain ⟨v, own, e, rfl, rfl⟩ := addK_some (tbl := tbl) (I := T9) (f := 34) (Pre := PreM) (Post := Post34) (fun a args h hp => by
    obtain ⟨hy, rfl⟩ := hp
    exact ⟨_, _, c34_ok T9 k54_t9 k64_t9 k65_t9 (fun _ _ => by simp (disch := decide) only [T9, T8, T7, T6, T5, T4, T3, T2, T1, R21, R20, R19, R18, R17, R16, R15, R14, R13, R12, R11, R10, R9, R8, R7, R6, R5, R4, R3, R2, R1, addI_ne, addX_ne, addV_ne, addK_ne]; rfl) h hy, rfl, rfl⟩) a _ h ⟨ha, rfl⟩
  exact e
theorem k36_10 : K36 T10 := fun h a ha => by
  simp (disch := decide) only [T10, T9, addK_ne]
  exact k36 h a ha
def PreO (a : AM) (args : List AV) (h : Heap) : Prop := (MR h a.y a.M ∧ isMat a.M = true) ∧ args = [a.y]
def Post44 (a : AM) (h : Heap) (v : AV) (own : List AObj) : Prop := v = (if exB a.M then .tup [G (exN a.M), .bool true] else .tup [G 0, .bool false]) ∧ own = []
noncomputable def T11 : CallF := addK tbl T10 44 PreO Post44
theorem t11 : Sound Go.Proofs.Try.prog T11 := Sound.addK follows ok t10 (by decide) _ _
abbrev K44 (J : CallF) : Prop := ∀ (h : Heap) (a : AM), MR h a.y a.M → isMat a.M = true → J 44 [a.y] h = some (if exB a.M then .tup [G (exN a.M), .bool true] else .tup [G 0, .bool false], [], false)
theorem k44 : K44 T11 := fun h a ha hm => by
  obtain ⟨v, own, e, rfl, rfl⟩ := addK_some (tbl := tbl) (I := T10) (f := 44) (Pre := PreO) (Post := Post44) (fun a args h hp => by
    obtain ⟨⟨hy, hm⟩, rfl⟩ := hp
    exact ⟨_, _, c44_ok T10 k36_10 (fun _ _ => by simp (disch := decide) only [T10, T9, T8, T7, T6, T5, T4, T3, T2, T1, R21, R20, R19, R18, R17, R16, R15, R14, R13, R12, R11, R10, R9, R8, R7, R6, R5, R4, R3, R2, R1, addI_ne, addX_ne, addV_ne, addK_ne]; rfl) h hy hm, rfl, rfl⟩) a _ h ⟨⟨ha, hm⟩, rfl⟩
  exact e

end Go.Proofs.Ytjeemgaoonapgaa.Ev
