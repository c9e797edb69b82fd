/-
  What the reference's Walk answers: the same walk. No condition.
-/
import Derived.Test.YtjeemgaoonapgaaRTb
set_option linter.unusedVariables false
set_option linter.unusedSimpArgs false
namespace Go.Proofs.Ytjeemgaoonapgaa.Ev
open Go Go.AEv

attribute [local simp] evFunc initS evOps_c evTrim_c evSkip_c evExit_c evRet_c evSeq_c evCond_c evBlock_c evDraw_c runOps_n runOps_c exec_n exec_g pure1_c act AOpd.ev T.get T.set T.put evBin evUn forceT_eq forceV_eq forceL_eq evRess evRes one keep runFP_n runFP_c app_none AV.flats AV.flat came_some List.getElem?_cons_zero List.getElem?_cons_succ beqT wrapI idxI tdivI tmodI decT decF ibT ibF inT inF evScope_c if_pos if_neg Cm_some thenW_n thenW_e thenW_r blkW_n blkW_e blkW_r goI kn putAt AV.cells fillA loadA takeA mk Eff.isAll Eff.isNone Eff.commutes Eff.spares okPair apart eqAgg fits LK.fits allEq aveq eqk mmA

section
variable {M : List (List Int)}
/-- The first y numbers looked at, for a walk of s steps from x. -/
def pvs (M : List (List Int)) (j : Nat) : Nat → Nat → Nat → Bool
  | 0, x, _ => decide (x = j)
  | t + 1, x, y => pv M (cw M j t) x y
theorem pvs_n (j : Nat) : ∀ m x, pvs M j m x M.length = cw M j m x
  | 0, x => rfl
  | t + 1, x => rfl
def rP (M : List (List Int)) (j m x z : Nat) : Bool := if z < x then cw M j m z else false
def rF (M : List (List Int)) (j m x y z : Nat) : Bool := if z < x then cw M j m z else if z = x then pvs M j m x y else false
theorem rF_n (j m x : Nat) : rF M j m x M.length = rP M j m (x + 1) := by
  funext z
  unfold rF rP
  rw [pvs_n]
  by_cases h1 : z < x
  · rw [if_pos h1, if_pos (by omega)]
  · rw [if_neg h1]
    by_cases h2 : z = x
    · rw [if_pos h2, if_pos (by omega), h2]
    · rw [if_neg h2, if_neg (by omega)]
theorem rP_0 (j m : Nat) : rP M j m 0 = fun _ => false := by
  funext z; unfold rP; rw [if_neg (by omega)]
theorem rP_set {j m x n : Nat} (hx : x < n) : (bls (rP M j m x) n).set x (.bool (pvs M j m x 0)) = bls (rF M j m x 0) n := by
  rw [bls_set _ _ _ _ hx]
  apply bls_ext
  intro z hz
  unfold rP rF
  by_cases e : z = x
  · rw [if_pos e, if_neg (by omega), if_pos e]
  · rw [if_neg e, if_neg e]
theorem rF_set {j t x y n : Nat} (hx : x < n) : (bls (rF M j (t + 1) x y) n).set x (.bool (pv M (cw M j t) x y || (decide (0 < ent M x y) && cw M j t y))) = bls (rF M j (t + 1) x (y + 1)) n := by
  rw [bls_set _ _ _ _ hx]
  apply bls_ext
  intro z hz
  unfold rF
  by_cases e : z = x
  · rw [if_pos e, if_neg (by omega), if_pos e]; rfl
  · rw [if_neg e, if_neg e, if_neg e]
theorem rF_at (j t x y : Nat) : rF M j (t + 1) x y x = pv M (cw M j t) x y := by
  unfold rF; rw [if_neg (by omega), if_pos rfl]; rfl
/-- The rows so far. -/
def cRows (M : List (List Int)) (j m : Nat) : List (List AV) := (List.range m).map fun t => bls (cw M j t) M.length
theorem cRows_len (j m : Nat) : (cRows M j m).length = m := by simp [cRows]
theorem cRows_at (j : Nat) {m t : Nat} (h : t < m) : (cRows M j m)[t]? = some (bls (cw M j t) M.length) := by simp [cRows, h]
theorem cRows_s (j m : Nat) : cRows M j (m + 1) = cRows M j m ++ [bls (cw M j m) M.length] := by simp [cRows, List.range_succ]

theorem n36_11 (J : CallF) (H1 H : Heap) {n i j k t x y b v rb rv q0 L b2 : Nat} {cs cr rs c0 c2 : List AV} {a : Int} {d0 d2 : Bool} (hh : H1 = H.plus [.cells 1 n c0]) (gb : H.get b = .cells 1 v cs) (er : cs[x]? = some (.slice rb 0 n rv)) (gr : H.get rb = .cells 1 rv cr) (ea : cr[y]? = some (G a))
    (gq : H.get q0 = .cells 1 L rs) (e11 : rs[t]? = some (.slice b2 0 n n)) (g2 : H.get b2 = .cells 1 n c2) (e2 : c2[y]? = some (.bool d2)) (l0 : c0.length = n) (e0 : c0[x]? = some (.bool d0)) (hx : x < n) (hy : y < n) (h8 : n ≤ 8) (ht : t < L) (hL : L ≤ 200) :
    Tr tbl J c36_o11 (fun s h => h = H1 ∧ s.get [] = .slice b 0 n v ∧ s.get [false] = G i ∧ s.get [true] = G j ∧ s.get [false, false] = G k ∧ s.get [true, true, false] = G n ∧ s.get [false, false, true] = .slice q0 0 L L ∧ s.get [true, false, true] = G ((t + 1 : Nat) : Int) ∧ s.get [false, true, true] = .slice H.size 0 n n ∧ s.get [true, true, true] = G x ∧ s.get [false, false, false, false] = G y) .normal (fun s h => h = H.plus [.cells 1 n (c0.set x (.bool (d0 || (decide (0 < a) && d2))))] ∧ s.get [] = .slice b 0 n v ∧ s.get [false] = G i ∧ s.get [true] = G j ∧ s.get [false, false] = G k ∧ s.get [true, true, false] = G n ∧ s.get [false, false, true] = .slice q0 0 L L ∧ s.get [true, false, true] = G ((t + 1 : Nat) : Int) ∧ s.get [false, true, true] = .slice H.size 0 n n ∧ s.get [true, true, true] = G x ∧ s.get [false, false, false, false] = G y) := by
  subst hh
  have er' := getI er
  have ea' := getI ea
  have e11' := getI e11
  have e2' := getI e2
  have e0' := getI e0
  have gb' := fun c => plus_keep [c] gb (by simp)
  have gr' := fun c => plus_keep [c] gr (by simp)
  have gq' := fun c => plus_keep [c] gq (by simp)
  have g2' := fun c => plus_keep [c] g2 (by simp)
  refine Tr.w fun s1 H1 hp R kR => ?_
  obtain ⟨rfl, q⟩ := hp
  by_cases ca : 0 < a <;> cases d0 <;> cases d2
  all_goals
    simp only [ca, decide_true, decide_false, Bool.false_or, Bool.true_or, Bool.true_and, Bool.false_and, Bool.and_false, Bool.and_true] at kR
    refine W.chunk ?_
    simp (disch := first | omega | exact getEq rfl | exact getO0 | exact Nat.le_of_ble_eq_true rfl) [c36_o11, app_growP, app_noneP, plus_N, plus_at0, put_plus0, put_plus1, upd_N, upd_size, q, gb', gr', gq', g2', l0, er, er', ea, ea', e11, e11', e0, e0', e2, e2']
    exact kR _ _ (by simp [T.get, q])
theorem c36_y (J : CallF) (hm : isMat M = true) {H0 H : Heap} {b v i j k m x : Nat} {cs : List AV} {xc : AV} (mx : MX H M b v cs) (tb : TB H0 H xc (cRows M j m)) (hx : x < M.length) (hk : k ≤ 100) (hs : m ≤ k) :
    Tr tbl J c36_l0 (fun s h => h = H.plus [.cells 1 M.length (bls (rF M j m x 0) M.length)] ∧ s.get [] = .slice b 0 M.length v ∧ s.get [false] = G i ∧ s.get [true] = G j ∧ s.get [false, false] = G k ∧ s.get [true, true, false] = G M.length ∧ s.get [false, false, true] = xc ∧ s.get [true, false, true] = G m ∧ s.get [false, true, true] = .slice H.size 0 M.length M.length ∧ s.get [true, true, true] = G x ∧ s.get [false, false, false, false] = G ((0 : Nat) : Int)) (.exit 4)
      (fun s h => h = H.plus [.cells 1 M.length (bls (rF M j m x M.length) M.length)] ∧ s.get [] = .slice b 0 M.length v ∧ s.get [false] = G i ∧ s.get [true] = G j ∧ s.get [false, false] = G k ∧ s.get [true, true, false] = G M.length ∧ s.get [false, false, true] = xc ∧ s.get [true, false, true] = G m ∧ s.get [false, true, true] = .slice H.size 0 M.length M.length ∧ s.get [true, true, true] = G x) := by
  have h8 := isMat_n hm
  cases m with
  | zero =>
    have e : rF M j 0 x 0 = rF M j 0 x M.length := rfl
    rw [e]
    generalize bls (rF M j 0 x M.length) M.length = c0 at *
    generalize M.length = n at *
    refine Tr.out ?_ (by simp)
    refine Tr.w fun s1 H1 hp R kR => W.trim ?_
    obtain ⟨rfl, q⟩ := hp
    refine W.assoc ?_
    refine W.seq (W.chunk ?_)
    simp (disch := first | omega | exact getEq rfl | exact getO0 | exact Nat.le_of_ble_eq_true rfl) [c36_o10, app_growP, app_noneP, plus_N, plus_at0, put_plus0, put_plus1, upd_N, upd_size, q]
    refine W.seq (W.chunk ?_)
    simp (disch := first | omega | exact getEq rfl | exact getO0 | exact Nat.le_of_ble_eq_true rfl) [app_growP, app_noneP, plus_N, plus_at0, put_plus0, put_plus1, upd_N, upd_size, q]
    exact kR _ _ (by simp [T.get, q])
  | succ t =>
    have hl := cRows_len (M := M) j (t + 1)
    obtain ⟨q0, rs, rfl, gq, lq, hr⟩ := tb.sl (i := 0) (by omega)
    obtain ⟨b2, e11, g2⟩ := hr t _ (cRows_at j (by omega))
    rw [hl] at gq ⊢
    rw [bls_len] at e11 g2
    obtain ⟨rb, rv, er, gr⟩ := mx.r x hx
    refine Tr.rounds (P := fun y => (fun s h => h = H.plus [.cells 1 M.length (bls (rF M j (t + 1) x y) M.length)] ∧ s.get [] = .slice b 0 M.length v ∧ s.get [false] = G i ∧ s.get [true] = G j ∧ s.get [false, false] = G k ∧ s.get [true, true, false] = G M.length ∧ s.get [false, false, true] = .slice q0 0 (t + 1) (t + 1) ∧ s.get [true, false, true] = G ((t + 1 : Nat) : Int) ∧ s.get [false, true, true] = .slice H.size 0 M.length M.length ∧ s.get [true, true, true] = G x ∧ s.get [false, false, false, false] = G y)) (M := M.length) (fun y hy => ?_) ?_ (by simp) 0 (by omega)
    · refine Tr.w fun s1 H1 hp R kR => W.trim ?_
      obtain ⟨rfl, q⟩ := hp
      have tt := n36_11 (i := i) (j := j) (k := k) J (H.plus [.cells 1 M.length (bls (rF M j (t + 1) x y) M.length)]) H rfl mx.g er gr (row_at hm hx hy) gq e11 g2 (bls_getN _ hy rfl) (bls_len _ _) (bls_getN _ hx (rF_at j t x y)) hx hy h8.2 (by omega) (by omega)
      rw [rF_set hx] at tt
      generalize bls (rF M j (t + 1) x (y + 1)) M.length = c1 at *
      generalize bls (rF M j (t + 1) x y) M.length = c0 at *
      generalize M.length = n at *
      refine W.assoc ?_
      refine W.seq (W.chunk ?_)
      simp (disch := first | omega | exact getEq rfl | exact getO0 | exact Nat.le_of_ble_eq_true rfl) [c36_o10, app_growP, app_noneP, plus_N, plus_at0, put_plus0, put_plus1, upd_N, upd_size, q]
      refine W.seq (W.chunk ?_)
      simp (disch := first | omega | exact getEq rfl | exact getO0 | exact Nat.le_of_ble_eq_true rfl) [app_growP, app_noneP, plus_N, plus_at0, put_plus0, put_plus1, upd_N, upd_size, q]
      refine W.seq (W.block ?_)
      refine W.use (tt) (by simp (disch := first | omega | exact getEq rfl | exact getO0 | exact Nat.le_of_ble_eq_true rfl) [app_growP, app_noneP, plus_N, plus_at0, put_plus0, put_plus1, upd_N, upd_size, q]) fun s1 H1 hp => ?_
      obtain ⟨rfl, q⟩ := hp
      try simp only [thenW_n, thenW_e, thenW_r, blkW_n, blkW_e, blkW_r, if_true]
      refine W.chunk ?_
      simp (disch := first | omega | exact getEq rfl | exact getO0 | exact Nat.le_of_ble_eq_true rfl) [c36_o12, app_growP, app_noneP, plus_N, plus_at0, put_plus0, put_plus1, upd_N, upd_size, q]
      exact kR _ _ (by simp [T.get, q])
    · refine Tr.w fun s1 H1 hp R kR => W.trim ?_
      obtain ⟨rfl, q⟩ := hp
      generalize M.length = n at *
      refine W.assoc ?_
      refine W.seq (W.chunk ?_)
      simp (disch := first | omega | exact getEq rfl | exact getO0 | exact Nat.le_of_ble_eq_true rfl) [c36_o10, app_growP, app_noneP, plus_N, plus_at0, put_plus0, put_plus1, upd_N, upd_size, q]
      refine W.seq (W.chunk ?_)
      simp (disch := first | omega | exact getEq rfl | exact getO0 | exact Nat.le_of_ble_eq_true rfl) [app_growP, app_noneP, plus_N, plus_at0, put_plus0, put_plus1, upd_N, upd_size, q]
      exact kR _ _ (by simp [T.get, q])
theorem c36_x (J : CallF) (hm : isMat M = true) {H0 H : Heap} {b v i j k m : Nat} {cs : List AV} {xc : AV} (mx : MX H M b v cs) (tb : TB H0 H xc (cRows M j m)) (hk : k ≤ 100) (hs : m ≤ k) :
    Tr tbl J c36_l1 (fun s h => h = H.plus [.cells 1 M.length (bls (rP M j m 0) M.length)] ∧ s.get [] = .slice b 0 M.length v ∧ s.get [false] = G i ∧ s.get [true] = G j ∧ s.get [false, false] = G k ∧ s.get [true, true, false] = G M.length ∧ s.get [false, false, true] = xc ∧ s.get [true, false, true] = G m ∧ s.get [false, true, true] = .slice H.size 0 M.length M.length ∧ s.get [true, true, true] = G ((0 : Nat) : Int)) (.exit 2)
      (fun s h => h = H.plus [.cells 1 M.length (bls (rP M j m M.length) M.length)] ∧ s.get [] = .slice b 0 M.length v ∧ s.get [false] = G i ∧ s.get [true] = G j ∧ s.get [false, false] = G k ∧ s.get [true, true, false] = G M.length ∧ s.get [false, false, true] = xc ∧ s.get [true, false, true] = G m ∧ s.get [false, true, true] = .slice H.size 0 M.length M.length) := by
  have h8 := isMat_n hm
  refine Tr.rounds (P := fun x => (fun s h => h = H.plus [.cells 1 M.length (bls (rP M j m x) M.length)] ∧ s.get [] = .slice b 0 M.length v ∧ s.get [false] = G i ∧ s.get [true] = G j ∧ s.get [false, false] = G k ∧ s.get [true, true, false] = G M.length ∧ s.get [false, false, true] = xc ∧ s.get [true, false, true] = G m ∧ s.get [false, true, true] = .slice H.size 0 M.length M.length ∧ s.get [true, true, true] = G x)) (M := M.length) (fun x hx => ?_) ?_ (by simp) 0 (by omega)
  · refine Tr.w fun s1 H1 hp R kR => W.trim ?_
    obtain ⟨rfl, q⟩ := hp
    have l0 := c36_y (i := i) J hm mx tb hx hk hs
    rw [rF_n] at l0
    have es := rP_set (M := M) (j := j) (m := m) (x := x) hx
    have e0 : pvs M j m x 0 = (decide (m = 0) && decide (x = j)) := by
      cases m with
      | zero => simp [pvs]
      | succ t => simp [pvs, pv]
    rw [e0] at es
    have lz := bls_len (rP M j m x) M.length
    generalize bls (rP M j m (x + 1)) M.length = c2 at *
    generalize bls (rF M j m x 0) M.length = c1 at *
    generalize bls (rP M j m x) M.length = c0 at *
    generalize M.length = n at *
    by_cases h1 : m = 0 <;> by_cases h2 : x = j
    all_goals
      simp only [h1, h2, decide_true, decide_false, Bool.and_true, Bool.and_false, Bool.false_and, Bool.true_and] at es l0
      try simp only [h1, h2] at q kR
      refine W.assoc ?_
      refine W.seq (W.chunk ?_)
      simp (disch := first | omega | exact getEq rfl | exact getO0 | exact Nat.le_of_ble_eq_true rfl) [c36_o7, app_growP, app_noneP, plus_N, plus_at0, put_plus0, put_plus1, upd_N, upd_size, q]
      refine W.seq (W.chunk ?_)
      simp (disch := first | omega | exact getEq rfl | exact getO0 | exact Nat.le_of_ble_eq_true rfl) [app_growP, app_noneP, plus_N, plus_at0, put_plus0, put_plus1, upd_N, upd_size, q]
      refine W.seq (W.block ?_)
      refine W.seq (W.chunk ?_)
      simp (disch := first | omega | exact getEq rfl | exact getO0 | exact Nat.le_of_ble_eq_true rfl) [c36_o8, app_growP, app_noneP, plus_N, plus_at0, put_plus0, put_plus1, upd_N, upd_size, q, lz, es, h1, h2]
      refine W.seq (W.chunk ?_)
      simp (disch := first | omega | exact getEq rfl | exact getO0 | exact Nat.le_of_ble_eq_true rfl) [c36_o9, app_growP, app_noneP, plus_N, plus_at0, put_plus0, put_plus1, upd_N, upd_size, q]
      refine W.block ?_
      refine W.use (l0) (by simp (disch := first | omega | exact getEq rfl | exact getO0 | exact Nat.le_of_ble_eq_true rfl) [app_growP, app_noneP, plus_N, plus_at0, put_plus0, put_plus1, upd_N, upd_size, q]) fun s1 H1 hp => ?_
      obtain ⟨rfl, q⟩ := hp
      try simp only [thenW_n, thenW_e, thenW_r, blkW_n, blkW_e, blkW_r, if_true]
      refine W.chunk ?_
      simp (disch := first | omega | exact getEq rfl | exact getO0 | exact Nat.le_of_ble_eq_true rfl) [c36_o13, app_growP, app_noneP, plus_N, plus_at0, put_plus0, put_plus1, upd_N, upd_size, q]
      exact kR _ _ (by simp [T.get, q])
  · refine Tr.w fun s1 H1 hp R kR => W.trim ?_
    obtain ⟨rfl, q⟩ := hp
    generalize M.length = n at *
    refine W.assoc ?_
    refine W.seq (W.chunk ?_)
    simp (disch := first | omega | exact getEq rfl | exact getO0 | exact Nat.le_of_ble_eq_true rfl) [c36_o7, app_growP, app_noneP, plus_N, plus_at0, put_plus0, put_plus1, upd_N, upd_size, q]
    refine W.seq (W.chunk ?_)
    simp (disch := first | omega | exact getEq rfl | exact getO0 | exact Nat.le_of_ble_eq_true rfl) [app_growP, app_noneP, plus_N, plus_at0, put_plus0, put_plus1, upd_N, upd_size, q]
    exact kR _ _ (by simp [T.get, q])
theorem c36_s (J : CallF) (hm : isMat M = true) {H0 : Heap} {b v i j k : Nat} {cs : List AV} (mx : MX H0 M b v cs) (hk : k ≤ 100) :
    Tr tbl J c36_l2 (fun s h => h = H0 ∧ s.get [] = .slice b 0 M.length v ∧ s.get [false] = G i ∧ s.get [true] = G j ∧ s.get [false, false] = G k ∧ s.get [true, true, false] = G M.length ∧ s.get [false, false, true] = .nils ∧ s.get [true, false, true] = G ((0 : Nat) : Int)) (.exit 0)
      (fun s h => ∃ xc, TB H0 h xc (cRows M j (k + 1)) ∧ s.get [] = .slice b 0 M.length v ∧ s.get [false] = G i ∧ s.get [false, false] = G k ∧ s.get [false, false, true] = xc) := by
  have h8 := isMat_n hm
  refine Tr.pre (P := fun s h => ∃ xc, TB H0 h xc (cRows M j 0) ∧ s.get [] = .slice b 0 M.length v ∧ s.get [false] = G i ∧ s.get [true] = G j ∧ s.get [false, false] = G k ∧ s.get [true, true, false] = G M.length ∧ s.get [false, false, true] = xc ∧ s.get [true, false, true] = G ((0 : Nat) : Int)) (fun s h q => ⟨.nils, by rw [q.1]; exact TB.nil H0, by simp [q]⟩) ?_
  refine Tr.rounds (P := fun m s h => ∃ xc, TB H0 h xc (cRows M j m) ∧ s.get [] = .slice b 0 M.length v ∧ s.get [false] = G i ∧ s.get [true] = G j ∧ s.get [false, false] = G k ∧ s.get [true, true, false] = G M.length ∧ s.get [false, false, true] = xc ∧ s.get [true, false, true] = G m) (M := k + 1) (fun m hs => ?_) ?_ (by simp) 0 (by omega)
  · refine Tr.w fun s1 H1 hp R kR => W.trim ?_
    obtain ⟨xc, tb, q⟩ := hp
    have l0 := c36_x (i := i) J hm (mx.kp tb.k) tb hk (by omega)
    rw [rP_0] at l0
    have en : bls (rP M j m M.length) M.length = bls (cw M j m) M.length := bls_ext _ _ _ fun z hz => by unfold rP; rw [if_pos hz]
    rw [en] at l0
    have k1 : Kp (fun _ => False) H1 (H1.plus [.cells 1 M.length (bls (cw M j m) M.length)]) := Kp.plus _ _
    have tb1 := tb.kp k1
    have gn : (H1.plus [.cells 1 M.length (bls (cw M j m) M.length)]).get H1.size = .cells 1 M.length (bls (cw M j m) M.length) := plus_at0 _ _ _ _ rfl
    have lc := bls_len (cw M j m) M.length
    obtain ⟨x1, e, h2, q1, q2, tb2, _⟩ := tb1.app (cs := bls (cw M j m) M.length) (b := H1.size) (H1.plus [.cells 1 M.length (bls (cw M j m) M.length)]).size (by rw [lc]; exact gn) ⟨fun e => by
      obtain ⟨rs, lv, _⟩ := tb.r
      have := lv.lt e; omega, tb.k.size⟩ (by rw [cRows_len]; omega)
    rw [← cRows_s] at tb2
    rw [lc] at q1 q2
    have f1 := app1_at (H1.plus [.cells 1 M.length (bls (cw M j m) M.length)]) (.slice H1.size 0 M.length M.length)
    have mk1 := fun H => mkSl_ok H 1 (.bool false) M.length (M.length : Int) rfl (by omega)
    have rp := bls_rep M.length
    generalize bls (cw M j m) M.length = c2 at *
    generalize bls (fun _ => false) M.length = cz at *
    generalize M.length = n at *
    refine W.assoc ?_
    refine W.seq (W.chunk ?_)
    simp (disch := first | omega | exact getEq rfl | exact getO0 | exact Nat.le_of_ble_eq_true rfl) [c36_o4, app_growP, app_noneP, plus_N, plus_at0, put_plus0, put_plus1, upd_N, upd_size, q]
    refine W.seq (W.chunk ?_)
    simp (disch := first | omega | exact getEq rfl | exact getO0 | exact Nat.le_of_ble_eq_true rfl) [app_growP, app_noneP, plus_N, plus_at0, put_plus0, put_plus1, upd_N, upd_size, q]
    refine W.seq (W.block ?_)
    refine W.seq (W.chunk ?_)
    simp (disch := first | omega | exact getEq rfl | exact getO0 | exact Nat.le_of_ble_eq_true rfl) [-act, c36_o5, app_growP, app_noneP, plus_N, plus_at0, put_plus0, put_plus1, upd_N, upd_size, q, act_move, act_mkSl, mk1, rp]
    refine W.assoc ?_
    refine W.seq (W.chunk ?_)
    simp (disch := first | omega | exact getEq rfl | exact getO0 | exact Nat.le_of_ble_eq_true rfl) [c36_o6, app_growP, app_noneP, plus_N, plus_at0, put_plus0, put_plus1, upd_N, upd_size, q]
    refine W.seq (W.block ?_)
    refine W.use (l0) (by simp (disch := first | omega | exact getEq rfl | exact getO0 | exact Nat.le_of_ble_eq_true rfl) [app_growP, app_noneP, plus_N, plus_at0, put_plus0, put_plus1, upd_N, upd_size, q]) fun s1 H1 hp => ?_
    obtain ⟨rfl, q⟩ := hp
    try simp only [thenW_n, thenW_e, thenW_r, blkW_n, blkW_e, blkW_r, if_true]
    refine W.chunk ?_
    simp (disch := first | omega | exact getEq rfl | exact getO0 | exact Nat.le_of_ble_eq_true rfl) [c36_o14, app_growP, app_noneP, plus_N, plus_at0, put_plus0, put_plus1, upd_N, upd_size, q, elems, rdOf, f1, q1, q2]
    refine W.chunk ?_
    simp (disch := first | omega | exact getEq rfl | exact getO0 | exact Nat.le_of_ble_eq_true rfl) [c36_o15, app_growP, app_noneP, plus_N, plus_at0, put_plus0, put_plus1, upd_N, upd_size, q]
    exact kR _ _ ⟨_, tb2, by simp [T.get, q]⟩
  · refine Tr.w fun s1 H1 hp R kR => W.trim ?_
    obtain ⟨xc, tb, q⟩ := hp
    generalize M.length = n at *
    refine W.assoc ?_
    refine W.seq (W.chunk ?_)
    simp (disch := first | omega | exact getEq rfl | exact getO0 | exact Nat.le_of_ble_eq_true rfl) [c36_o4, app_growP, app_noneP, plus_N, plus_at0, put_plus0, put_plus1, upd_N, upd_size, q]
    refine W.seq (W.chunk ?_)
    simp (disch := first | omega | exact getEq rfl | exact getO0 | exact Nat.le_of_ble_eq_true rfl) [app_growP, app_noneP, plus_N, plus_at0, put_plus0, put_plus1, upd_N, upd_size, q]
    exact kR _ _ ⟨_, tb, by simp [T.get, q]⟩
end

end Go.Proofs.Ytjeemgaoonapgaa.Ev
