/-
  The reference's Power. No condition.
-/
import Derived.Test.YtjeemgaoonapgaaRPow4
set_option linter.unusedVariables false
set_option linter.unusedSimpArgs false
namespace Go.Proofs.Ytjeemgaoonapgaa.Ev
open Go Go.AEv

attribute [local simp] evFunc initS evOps_c evTrim_c evSkip_c evExit_c evRet_c evSeq_c evCond_c evBlock_c evDraw_c runOps_n runOps_c exec_n exec_g pure1_c act AOpd.ev T.get T.set T.put evBin evUn forceT_eq forceV_eq forceL_eq evRess evRes one keep runFP_n runFP_c app_none AV.flats AV.flat came_some List.getElem?_cons_zero List.getElem?_cons_succ beqT wrapI idxI tdivI tmodI decT decF ibT ibF inT inF evScope_c if_pos if_neg Cm_some thenW_n thenW_e thenW_r blkW_n blkW_e blkW_r goI kn putAt AV.cells fillA loadA takeA mk Eff.isAll Eff.isNone Eff.commutes Eff.spares okPair apart eqAgg fits LK.fits allEq aveq eqk mmA

section
variable {M : List (List Int)}
/-- A row of the product, as far as j. -/
def rwP (M : List (List Int)) (X : Nat → Int) (i j z : Nat) : Int := if z < j then dt M X i z M.length else 0
theorem rwP_0 (X : Nat → Int) (i : Nat) : rwP M X i 0 = fun _ => 0 := by
  funext z; unfold rwP; rw [if_neg (by omega)]
theorem rwP_n (X : Nat → Int) {i : Nat} (hi : i < M.length) (h8 : M.length ≤ 8) : lf (rwP M X i M.length) M.length = rwL (prF M X) M.length i := by
  unfold rwL
  apply lf_ext
  intro z hz
  unfold rwP prF
  rw [if_pos hz, show (i * 8 + z) / 8 = i by omega, show (i * 8 + z) % 8 = z by omega, if_pos hi]
theorem rwP_set (X : Nat → Int) {i j : Nat} (hj : j < M.length) : (gs (lf (rwP M X i j) M.length)).set j (G (dt M X i j M.length)) = gs (lf (rwP M X i (j + 1)) M.length) := by
  rw [gl_set _ _ _ _ hj]
  congr 1
  apply lf_ext
  intro z hz
  unfold rwP
  by_cases e : z = j
  · rw [if_pos e, if_pos (by omega), e]
  · rw [if_neg e]
    by_cases c : z < j
    · rw [if_pos c, if_pos (by omega)]
    · rw [if_neg c, if_neg (by omega)]

structure P46 (H : Heap) (n i j x b v q0 b2 rb rv : Nat) (cs rs c2 cr : List AV) (a e D p Q : Int) : Prop where
  hk : x < n ∧ i < n ∧ j < n ∧ n ≤ 8
  gb : H.get b = .cells 1 v cs
  er : cs[x]? = some (.slice rb 0 n rv)
  gr : H.get rb = .cells 1 rv cr
  ee : cr[j]? = some (G e)
  gq : H.get q0 = .cells 1 n rs
  e2 : rs[i]? = some (.slice b2 0 n n)
  g2 : H.get b2 = .cells 1 n c2
  ea : c2[x]? = some (G a)
  ha : 0 ≤ a ∧ a ≤ 1152921504606846976
  hb : 0 ≤ e ∧ e ≤ 9
  hD : 0 ≤ D ∧ D ≤ 1152921504606846976
  hp : a * e = p
  hp0 : 0 ≤ p
  hQ : (1152921504606846976 - D) / e = Q
  hQ0 : 0 ≤ Q ∧ Q ≤ 1152921504606846976
  hq : 0 < e → (Q < a ↔ 1152921504606846976 < D + p)
  hb0 : e = 0 → p = 0
theorem c46_f (J : CallF) {H : Heap} {n i j x b v q0 b2 rb rv k m br : Nat} {cs rs c2 cr : List AV} {a e D p Q : Int} (P : P46 H n i j x b v q0 b2 rb rv cs rs c2 cr a e D p Q) (xn : AV) (big : 1152921504606846976 < D + p) :
    Tr tbl J (.trim [[], [false], [true, true], [false, false, false], [true, true, false], [false, false, true], [true, false, true], [false, true, true], [true, true, true], [false, false, false, false], [true, false, false, false]] c46_b1) (fun s h => h = H ∧ s.get [] = .slice b 0 n v ∧ s.get [false] = G k ∧ s.get [true, true] = G n ∧ s.get [false, false, false] = .slice q0 0 n n ∧ s.get [true, true, false] = G m ∧ s.get [false, false, true] = xn ∧ s.get [true, false, true] = G i ∧ s.get [false, true, true] = .slice br 0 n n ∧ s.get [true, true, true] = G j ∧ s.get [false, false, false, false] = G D ∧ s.get [true, false, false, false] = G x) .ret (fun s h => s.get [true, false] = .nils ∧ s.get [false, true] = .bool false) := by
  obtain ⟨hk, gb, er, gr, ee, gq, e2, g2, ea, ha, hb, hD, hp, hp0, hQ, hQ0, hq, hb0⟩ := P
  have er' := getI er
  have ee' := getI ee
  have e2' := getI e2
  have ea' := getI ea
  have bp : 0 < e := by
    rcases Int.lt_or_le 0 e with c | c
    · exact c
    · have := hb0 (by omega); omega
  have hlt := (hq bp).2 big
  clear hq
  refine Tr.w fun s1 H1 hp R kR => W.trim ?_
  obtain ⟨rfl, q⟩ := hp
  refine W.assoc ?_
  refine W.seq (W.chunk ?_)
  simp (disch := first | omega | exact getEq rfl | exact getO0 | exact Nat.le_of_ble_eq_true rfl) [c46_o19, app_growP, app_noneP, plus_N, plus_at0, put_plus0, put_plus1, upd_N, upd_size, q]
  refine W.seq (W.chunk ?_)
  simp (disch := first | omega | exact getEq rfl | exact getO0 | exact Nat.le_of_ble_eq_true rfl) [app_growP, app_noneP, plus_N, plus_at0, put_plus0, put_plus1, upd_N, upd_size, q]
  refine W.seq (W.block ?_)
  refine W.seq (W.chunk ?_)
  simp (disch := first | omega | exact getEq rfl | exact getO0 | exact Nat.le_of_ble_eq_true rfl) [c46_o20, app_growP, app_noneP, plus_N, plus_at0, put_plus0, put_plus1, upd_N, upd_size, q, gb, er, er', gr, ee, ee', gq, e2, e2', g2, ea, ea', -evDraw_c, evDraw_0]
  refine W.assoc ?_
  refine W.seq (W.chunk ?_)
  simp (disch := first | omega | exact getEq rfl | exact getO0 | exact Nat.le_of_ble_eq_true rfl) [c46_o21, app_growP, app_noneP, plus_N, plus_at0, put_plus0, put_plus1, upd_N, upd_size, q, hQ]
  refine W.seq (W.chunk ?_)
  simp (disch := first | omega | exact getEq rfl | exact getO0 | exact Nat.le_of_ble_eq_true rfl) [c46_o22, app_growP, app_noneP, plus_N, plus_at0, put_plus0, put_plus1, upd_N, upd_size, q]
  exact kR _ _ (by simp [T.get, q])
theorem c46_st (J : CallF) {H : Heap} {n i j x b v q0 b2 rb rv k m br : Nat} {cs rs c2 cr : List AV} {a e D p Q : Int} (P : P46 H n i j x b v q0 b2 rb rv cs rs c2 cr a e D p Q) (xn : AV) (big : ¬ 1152921504606846976 < D + p) :
    Tr tbl J (.trim [[], [false], [true, true], [false, false, false], [true, true, false], [false, false, true], [true, false, true], [false, true, true], [true, true, true], [false, false, false, false], [true, false, false, false]] c46_b1) (fun s h => h = H ∧ s.get [] = .slice b 0 n v ∧ s.get [false] = G k ∧ s.get [true, true] = G n ∧ s.get [false, false, false] = .slice q0 0 n n ∧ s.get [true, true, false] = G m ∧ s.get [false, false, true] = xn ∧ s.get [true, false, true] = G i ∧ s.get [false, true, true] = .slice br 0 n n ∧ s.get [true, true, true] = G j ∧ s.get [false, false, false, false] = G D ∧ s.get [true, false, false, false] = G x) .normal (fun s h => h = H ∧ s.get [] = .slice b 0 n v ∧ s.get [false] = G k ∧ s.get [true, true] = G n ∧ s.get [false, false, false] = .slice q0 0 n n ∧ s.get [true, true, false] = G m ∧ s.get [false, false, true] = xn ∧ s.get [true, false, true] = G i ∧ s.get [false, true, true] = .slice br 0 n n ∧ s.get [true, true, true] = G j ∧ s.get [false, false, false, false] = G (D + p) ∧ s.get [true, false, false, false] = G ((x + 1 : Nat) : Int)) := by
  obtain ⟨hk, gb, er, gr, ee, gq, e2, g2, ea, ha, hb, hD, hp, hp0, hQ, hQ0, hq, hb0⟩ := P
  have er' := getI er
  have ee' := getI ee
  have e2' := getI e2
  have ea' := getI ea
  by_cases bp : 0 < e
  · have hlt := (hq bp).1
    have hle : a ≤ Q := by
      rcases Int.lt_or_le Q a with c | c
      · have := hlt c; omega
      · exact c
    clear hq hlt
    refine Tr.w fun s1 H1 hp R kR => W.trim ?_
    obtain ⟨rfl, q⟩ := hp
    refine W.assoc ?_
    refine W.seq (W.chunk ?_)
    simp (disch := first | omega | exact getEq rfl | exact getO0 | exact Nat.le_of_ble_eq_true rfl) [c46_o19, app_growP, app_noneP, plus_N, plus_at0, put_plus0, put_plus1, upd_N, upd_size, q]
    refine W.seq (W.chunk ?_)
    simp (disch := first | omega | exact getEq rfl | exact getO0 | exact Nat.le_of_ble_eq_true rfl) [app_growP, app_noneP, plus_N, plus_at0, put_plus0, put_plus1, upd_N, upd_size, q]
    refine W.seq (W.block ?_)
    refine W.seq (W.chunk ?_)
    simp (disch := first | omega | exact getEq rfl | exact getO0 | exact Nat.le_of_ble_eq_true rfl) [c46_o20, app_growP, app_noneP, plus_N, plus_at0, put_plus0, put_plus1, upd_N, upd_size, q, gb, er, er', gr, ee, ee', gq, e2, e2', g2, ea, ea', -evDraw_c, evDraw_0]
    refine W.assoc ?_
    refine W.seq (W.chunk ?_)
    simp (disch := first | omega | exact getEq rfl | exact getO0 | exact Nat.le_of_ble_eq_true rfl) [c46_o21, app_growP, app_noneP, plus_N, plus_at0, put_plus0, put_plus1, upd_N, upd_size, q, hQ]
    refine W.seq (W.chunk ?_)
    simp (disch := first | omega | exact getEq rfl | exact getO0 | exact Nat.le_of_ble_eq_true rfl) [c46_o22, app_growP, app_noneP, plus_N, plus_at0, put_plus0, put_plus1, upd_N, upd_size, q]
    refine W.chunk ?_
    simp (disch := first | omega | exact getEq rfl | exact getO0 | exact Nat.le_of_ble_eq_true rfl) [c46_o23, app_growP, app_noneP, plus_N, plus_at0, put_plus0, put_plus1, upd_N, upd_size, q, hp]
    refine W.chunk ?_
    simp (disch := first | omega | exact getEq rfl | exact getO0 | exact Nat.le_of_ble_eq_true rfl) [c46_o24, app_growP, app_noneP, plus_N, plus_at0, put_plus0, put_plus1, upd_N, upd_size, q]
    exact kR _ _ (by simp [T.get, q])
  · refine Tr.w fun s1 H1 hp R kR => W.trim ?_
    obtain ⟨rfl, q⟩ := hp
    refine W.assoc ?_
    refine W.seq (W.chunk ?_)
    simp (disch := first | omega | exact getEq rfl | exact getO0 | exact Nat.le_of_ble_eq_true rfl) [c46_o19, app_growP, app_noneP, plus_N, plus_at0, put_plus0, put_plus1, upd_N, upd_size, q]
    refine W.seq (W.chunk ?_)
    simp (disch := first | omega | exact getEq rfl | exact getO0 | exact Nat.le_of_ble_eq_true rfl) [app_growP, app_noneP, plus_N, plus_at0, put_plus0, put_plus1, upd_N, upd_size, q]
    refine W.seq (W.block ?_)
    refine W.seq (W.chunk ?_)
    simp (disch := first | omega | exact getEq rfl | exact getO0 | exact Nat.le_of_ble_eq_true rfl) [c46_o20, app_growP, app_noneP, plus_N, plus_at0, put_plus0, put_plus1, upd_N, upd_size, q, gb, er, er', gr, ee, ee', gq, e2, e2', g2, ea, ea', -evDraw_c, evDraw_0]
    refine W.assoc ?_
    refine W.seq (W.chunk ?_)
    simp (disch := first | omega | exact getEq rfl | exact getO0 | exact Nat.le_of_ble_eq_true rfl) [c46_o21, app_growP, app_noneP, plus_N, plus_at0, put_plus0, put_plus1, upd_N, upd_size, q]
    refine W.seq (W.chunk ?_)
    simp (disch := first | omega | exact getEq rfl | exact getO0 | exact Nat.le_of_ble_eq_true rfl) [c46_o22, app_growP, app_noneP, plus_N, plus_at0, put_plus0, put_plus1, upd_N, upd_size, q]
    refine W.chunk ?_
    simp (disch := first | omega | exact getEq rfl | exact getO0 | exact Nat.le_of_ble_eq_true rfl) [c46_o23, app_growP, app_noneP, plus_N, plus_at0, put_plus0, put_plus1, upd_N, upd_size, q, hp]
    refine W.chunk ?_
    simp (disch := first | omega | exact getEq rfl | exact getO0 | exact Nat.le_of_ble_eq_true rfl) [c46_o24, app_growP, app_noneP, plus_N, plus_at0, put_plus0, put_plus1, upd_N, upd_size, q]
    exact kR _ _ (by simp [T.get, q])
/-- The table of the power so far, and the matrix. -/
structure E46 (M : List (List Int)) (X : Nat → Int) (H : Heap) (b v q0 : Nat) (cs rs : List AV) : Prop where
  mx : MX H M b v cs
  gq : H.get q0 = .cells 1 M.length rs
  r : ∀ i, i < M.length → ∃ b2, rs[i]? = some (.slice b2 0 M.length M.length) ∧ H.get b2 = .cells 1 M.length (gs (rwL X M.length i))
theorem E46.kp {X : Nat → Int} {H H' : Heap} {b v q0 : Nat} {cs rs : List AV} (e : E46 M X H b v q0 cs rs) (k : Kp (fun _ => False) H H') : E46 M X H' b v q0 cs rs :=
  ⟨e.mx.kp k, k.at e.gq (by simp) id, fun i hi => by obtain ⟨b2, x, y⟩ := e.r i hi; exact ⟨b2, x, k.at y (by simp) id⟩⟩
theorem c46_x (J : CallF) (hm : isMat M = true) {H : Heap} {X : Nat → Int} (hX : ∀ x, 0 ≤ X x ∧ X x ≤ mostP) {i j b v q0 k m br : Nat} {cs rs : List AV} (E : E46 M X H b v q0 cs rs) (hi : i < M.length) (hj : j < M.length) (xn : AV) : ∀ d x, x + d = M.length → dt M X i j x ≤ mostP →
    (dt M X i j M.length ≤ mostP → Tr tbl J c46_l1 (fun s h => h = H ∧ s.get [] = .slice b 0 M.length v ∧ s.get [false] = G k ∧ s.get [true, true] = G M.length ∧ s.get [false, false, false] = .slice q0 0 M.length M.length ∧ s.get [true, true, false] = G m ∧ s.get [false, false, true] = xn ∧ s.get [true, false, true] = G i ∧ s.get [false, true, true] = .slice br 0 M.length M.length ∧ s.get [true, true, true] = G j ∧ s.get [false, false, false, false] = G (dt M X i j x) ∧ s.get [true, false, false, false] = G x) (.exit 8) (fun s h => h = H ∧ s.get [] = .slice b 0 M.length v ∧ s.get [false] = G k ∧ s.get [true, true] = G M.length ∧ s.get [false, false, false] = .slice q0 0 M.length M.length ∧ s.get [true, true, false] = G m ∧ s.get [false, false, true] = xn ∧ s.get [true, false, true] = G i ∧ s.get [false, true, true] = .slice br 0 M.length M.length ∧ s.get [true, true, true] = G j ∧ s.get [false, false, false, false] = G (dt M X i j M.length))) ∧
    (mostP < dt M X i j M.length → Tr tbl J c46_l1 (fun s h => h = H ∧ s.get [] = .slice b 0 M.length v ∧ s.get [false] = G k ∧ s.get [true, true] = G M.length ∧ s.get [false, false, false] = .slice q0 0 M.length M.length ∧ s.get [true, true, false] = G m ∧ s.get [false, false, true] = xn ∧ s.get [true, false, true] = G i ∧ s.get [false, true, true] = .slice br 0 M.length M.length ∧ s.get [true, true, true] = G j ∧ s.get [false, false, false, false] = G (dt M X i j x) ∧ s.get [true, false, false, false] = G x) .ret (fun s h => s.get [true, false] = .nils ∧ s.get [false, true] = .bool false)) := by
  have h8 := isMat_n hm
  have hmp : mostP = 1152921504606846976 := rfl
  intro d
  induction d with
  | zero =>
    intro x hx hd
    obtain rfl : x = M.length := by omega
    refine ⟨fun _ => Tr.out ?_ (by simp), fun c => by omega⟩
    generalize dt M X i j M.length = D at *
    clear E
    generalize M.length = n at *
    refine Tr.w fun s1 H1 hp R kR => W.trim ?_
    obtain ⟨rfl, q⟩ := hp
    refine W.assoc ?_
    refine W.seq (W.chunk ?_)
    simp (disch := first | omega | exact getEq rfl | exact getO0 | exact Nat.le_of_ble_eq_true rfl) [c46_o19, app_growP, app_noneP, plus_N, plus_at0, put_plus0, put_plus1, upd_N, upd_size, q]
    refine W.seq (W.chunk ?_)
    simp (disch := first | omega | exact getEq rfl | exact getO0 | exact Nat.le_of_ble_eq_true rfl) [app_growP, app_noneP, plus_N, plus_at0, put_plus0, put_plus1, upd_N, upd_size, q]
    exact kR _ _ (by simp [T.get, q])
  | succ d ih =>
    intro x hx hd
    have hxn : x < M.length := by omega
    have nn := dt_nn hm (fun x => (hX x).1) i j x
    have mono := dt_mono hm (fun x => (hX x).1) i j d (x + 1)
    rw [show x + 1 + d = M.length by omega] at mono
    have ds : dt M X i j (x + 1) = dt M X i j x + X (i * 8 + x) * ent M x j := rfl
    have ih := ih (x + 1) (by omega)
    have hx' := hX (i * 8 + x)
    have hb := ent_bd hm x j
    obtain ⟨rb, rv, er, gr⟩ := E.mx.r x hxn
    obtain ⟨b2, e2, g2⟩ := E.r i hi
    have nd : 0 ≤ mostP - dt M X i j x := by omega
    have hQ1 : (mostP - dt M X i j x) / ent M x j ≤ mostP - dt M X i j x := Int.ediv_le_self _ nd
    have P : P46 H M.length i j x b v q0 b2 rb rv cs rs (gs (rwL X M.length i)) (gs (M.getD x [])) (X (i * 8 + x)) (ent M x j) (dt M X i j x) (X (i * 8 + x) * ent M x j) ((mostP - dt M X i j x) / ent M x j) := {
      hk := by omega
      gb := E.mx.g
      er := er
      gr := gr
      ee := row_at hm hxn hj
      gq := E.gq
      e2 := e2
      g2 := g2
      ea := by show (gs (lf (fun j => X (i * 8 + j)) M.length))[x]? = _; rw [gl_at _ hxn]
      ha := hx'
      hb := hb
      hD := ⟨nn, hd⟩
      hp := rfl
      hp0 := Int.mul_nonneg hx'.1 hb.1
      hQ := rfl
      hQ0 := ⟨Int.ediv_nonneg nd hb.1, by omega⟩
      hq := fun c => by
        have := Int.le_ediv_iff_mul_le (a := X (i * 8 + x)) (b := mostP - dt M X i j x) c
        constructor
        · intro q
          apply Int.lt_of_not_ge
          intro q2
          have := this.2 (by omega)
          omega
        · intro q
          apply Int.lt_of_not_ge
          intro q2
          have := this.1 q2
          omega
      hb0 := fun c => by rw [c, Int.mul_zero] }
    have hp0 := P.hp0
    rw [ds] at mono
    rw [ds] at ih
    by_cases big : mostP < dt M X i j x + X (i * 8 + x) * ent M x j
    · have big' : mostP < dt M X i j M.length := by omega
      exact ⟨fun c => absurd big' (Int.not_lt.2 c), fun _ => Tr.out (c46_f J P xn big) (by simp)⟩
    · obtain ⟨ih1, ih2⟩ := ih (Int.not_lt.1 big)
      have step := c46_st (k := k) (m := m) (br := br) J P xn big
      exact ⟨fun q => Tr.next step (ih1 q), fun q => Tr.next step (ih2 q)⟩
theorem c46_j (J : CallF) (hm : isMat M = true) {H : Heap} {X : Nat → Int} (hX : ∀ x, 0 ≤ X x ∧ X x ≤ mostP) {i b v q0 k m : Nat} {cs rs : List AV} (E : E46 M X H b v q0 cs rs) (hi : i < M.length) (xn : AV) : ∀ d j, j + d = M.length →
    (rwOk M X i j → Tr tbl J c46_l2 (fun s h => h = H.plus [.cells 1 M.length (gs (lf (rwP M X i j) M.length))] ∧ s.get [] = .slice b 0 M.length v ∧ s.get [false] = G k ∧ s.get [true, true] = G M.length ∧ s.get [false, false, false] = .slice q0 0 M.length M.length ∧ s.get [true, true, false] = G m ∧ s.get [false, false, true] = xn ∧ s.get [true, false, true] = G i ∧ s.get [false, true, true] = .slice H.size 0 M.length M.length ∧ s.get [true, true, true] = G j) (.exit 6) (fun s h => h = H.plus [.cells 1 M.length (gs (lf (rwP M X i M.length) M.length))] ∧ s.get [] = .slice b 0 M.length v ∧ s.get [false] = G k ∧ s.get [true, true] = G M.length ∧ s.get [false, false, false] = .slice q0 0 M.length M.length ∧ s.get [true, true, false] = G m ∧ s.get [false, false, true] = xn ∧ s.get [true, false, true] = G i ∧ s.get [false, true, true] = .slice H.size 0 M.length M.length)) ∧
    (¬ rwOk M X i j → Tr tbl J c46_l2 (fun s h => h = H.plus [.cells 1 M.length (gs (lf (rwP M X i j) M.length))] ∧ s.get [] = .slice b 0 M.length v ∧ s.get [false] = G k ∧ s.get [true, true] = G M.length ∧ s.get [false, false, false] = .slice q0 0 M.length M.length ∧ s.get [true, true, false] = G m ∧ s.get [false, false, true] = xn ∧ s.get [true, false, true] = G i ∧ s.get [false, true, true] = .slice H.size 0 M.length M.length ∧ s.get [true, true, true] = G j) .ret (fun s h => s.get [true, false] = .nils ∧ s.get [false, true] = .bool false)) := by
  have h8 := isMat_n hm
  intro d
  induction d with
  | zero =>
    intro j hj
    obtain rfl : j = M.length := by omega
    refine ⟨fun _ => Tr.out ?_ (by simp), fun c => absurd (fun j' a b => by omega) c⟩
    clear E
    generalize gs (lf (rwP M X i M.length) M.length) = c0 at *
    generalize M.length = n at *
    refine Tr.w fun s1 H1 hp R kR => W.trim ?_
    obtain ⟨rfl, q⟩ := hp
    refine W.assoc ?_
    refine W.seq (W.chunk ?_)
    simp (disch := first | omega | exact getEq rfl | exact getO0 | exact Nat.le_of_ble_eq_true rfl) [c46_o16, app_growP, app_noneP, plus_N, plus_at0, put_plus0, put_plus1, upd_N, upd_size, q]
    refine W.seq (W.chunk ?_)
    simp (disch := first | omega | exact getEq rfl | exact getO0 | exact Nat.le_of_ble_eq_true rfl) [app_growP, app_noneP, plus_N, plus_at0, put_plus0, put_plus1, upd_N, upd_size, q]
    exact kR _ _ (by simp [T.get, q])
  | succ d ih =>
    intro j hj
    have hjn : j < M.length := by omega
    obtain ⟨ih1, ih2⟩ := ih (j + 1) (by omega)
    have kp : Kp (fun _ => False) H (H.plus [.cells 1 M.length (gs (lf (rwP M X i j) M.length))]) := Kp.plus _ _
    obtain ⟨l1, l2⟩ := c46_x (k := k) (m := m) (br := H.size) J hm hX (E.kp kp) hi hjn xn M.length 0 (by omega) (by show (0 : Int) ≤ mostP; decide)
    rw [show dt M X i j 0 = 0 from rfl] at l1 l2
    rw [rwOk_s hjn]
    by_cases c : dt M X i j M.length ≤ mostP
    · have l1 := l1 c
      have es := rwP_set (M := M) X (i := i) hjn
      have lc := gl_len (rwP M X i j) M.length
      have step : Tr tbl J (.trim [[], [false], [true, true], [false, false, false], [true, true, false], [false, false, true], [true, false, true], [false, true, true], [true, true, true]] c46_b2) (fun s h => h = H.plus [.cells 1 M.length (gs (lf (rwP M X i j) M.length))] ∧ s.get [] = .slice b 0 M.length v ∧ s.get [false] = G k ∧ s.get [true, true] = G M.length ∧ s.get [false, false, false] = .slice q0 0 M.length M.length ∧ s.get [true, true, false] = G m ∧ s.get [false, false, true] = xn ∧ s.get [true, false, true] = G i ∧ s.get [false, true, true] = .slice H.size 0 M.length M.length ∧ s.get [true, true, true] = G j) .normal (fun s h => h = H.plus [.cells 1 M.length (gs (lf (rwP M X i (j + 1)) M.length))] ∧ s.get [] = .slice b 0 M.length v ∧ s.get [false] = G k ∧ s.get [true, true] = G M.length ∧ s.get [false, false, false] = .slice q0 0 M.length M.length ∧ s.get [true, true, false] = G m ∧ s.get [false, false, true] = xn ∧ s.get [true, false, true] = G i ∧ s.get [false, true, true] = .slice H.size 0 M.length M.length ∧ s.get [true, true, true] = G ((j + 1 : Nat) : Int)) := by
        clear ih1 ih2 l2 ih E kp c
        generalize gs (lf (rwP M X i (j + 1)) M.length) = c1 at *
        generalize gs (lf (rwP M X i j) M.length) = c0 at *
        generalize dt M X i j M.length = D at *
        generalize M.length = n at *
        refine Tr.w fun s1 H1 hp R kR => W.trim ?_
        obtain ⟨rfl, q⟩ := hp
        refine W.assoc ?_
        refine W.seq (W.chunk ?_)
        simp (disch := first | omega | exact getEq rfl | exact getO0 | exact Nat.le_of_ble_eq_true rfl) [c46_o16, app_growP, app_noneP, plus_N, plus_at0, put_plus0, put_plus1, upd_N, upd_size, q]
        refine W.seq (W.chunk ?_)
        simp (disch := first | omega | exact getEq rfl | exact getO0 | exact Nat.le_of_ble_eq_true rfl) [app_growP, app_noneP, plus_N, plus_at0, put_plus0, put_plus1, upd_N, upd_size, q]
        refine W.seq (W.block ?_)
        refine W.seq (W.chunk ?_)
        simp (disch := first | omega | exact getEq rfl | exact getO0 | exact Nat.le_of_ble_eq_true rfl) [c46_o17, app_growP, app_noneP, plus_N, plus_at0, put_plus0, put_plus1, upd_N, upd_size, q]
        refine W.assoc ?_
        refine W.seq (W.chunk ?_)
        simp (disch := first | omega | exact getEq rfl | exact getO0 | exact Nat.le_of_ble_eq_true rfl) [c46_o18, app_growP, app_noneP, plus_N, plus_at0, put_plus0, put_plus1, upd_N, upd_size, q]
        refine W.seq (W.block ?_)
        refine W.use (l1) (by simp (disch := first | omega | exact getEq rfl | exact getO0 | exact Nat.le_of_ble_eq_true rfl) [app_growP, app_noneP, plus_N, plus_at0, put_plus0, put_plus1, upd_N, upd_size, q]) fun s1 H1 hp => ?_
        obtain ⟨rfl, q⟩ := hp
        try simp only [thenW_n, thenW_e, thenW_r, blkW_n, blkW_e, blkW_r, if_true]
        refine W.chunk ?_
        simp (disch := first | omega | exact getEq rfl | exact getO0 | exact Nat.le_of_ble_eq_true rfl) [c46_o25, app_growP, app_noneP, plus_N, plus_at0, put_plus0, put_plus1, upd_N, upd_size, q, es, lc]
        refine W.chunk ?_
        simp (disch := first | omega | exact getEq rfl | exact getO0 | exact Nat.le_of_ble_eq_true rfl) [c46_o26, app_growP, app_noneP, plus_N, plus_at0, put_plus0, put_plus1, upd_N, upd_size, q]
        exact kR _ _ (by simp [T.get, q])
      exact ⟨fun q => Tr.next step (ih1 q.2), fun q => Tr.next step (ih2 (fun r => q ⟨c, r⟩))⟩
    · have l2 := l2 (Int.not_le.1 c)
      refine ⟨fun q => absurd q.1 c, fun _ => Tr.out ?_ (by simp)⟩
      clear ih1 ih2 ih E kp c
      generalize gs (lf (rwP M X i j) M.length) = c0 at *
      generalize M.length = n at *
      refine Tr.w fun s1 H1 hp R kR => W.trim ?_
      obtain ⟨rfl, q⟩ := hp
      refine W.assoc ?_
      refine W.seq (W.chunk ?_)
      simp (disch := first | omega | exact getEq rfl | exact getO0 | exact Nat.le_of_ble_eq_true rfl) [c46_o16, app_growP, app_noneP, plus_N, plus_at0, put_plus0, put_plus1, upd_N, upd_size, q]
      refine W.seq (W.chunk ?_)
      simp (disch := first | omega | exact getEq rfl | exact getO0 | exact Nat.le_of_ble_eq_true rfl) [app_growP, app_noneP, plus_N, plus_at0, put_plus0, put_plus1, upd_N, upd_size, q]
      refine W.seq (W.block ?_)
      refine W.seq (W.chunk ?_)
      simp (disch := first | omega | exact getEq rfl | exact getO0 | exact Nat.le_of_ble_eq_true rfl) [c46_o17, app_growP, app_noneP, plus_N, plus_at0, put_plus0, put_plus1, upd_N, upd_size, q]
      refine W.assoc ?_
      refine W.seq (W.chunk ?_)
      simp (disch := first | omega | exact getEq rfl | exact getO0 | exact Nat.le_of_ble_eq_true rfl) [c46_o18, app_growP, app_noneP, plus_N, plus_at0, put_plus0, put_plus1, upd_N, upd_size, q]
      refine W.seq (W.block ?_)
      refine W.use (l2) (by simp (disch := first | omega | exact getEq rfl | exact getO0 | exact Nat.le_of_ble_eq_true rfl) [app_growP, app_noneP, plus_N, plus_at0, put_plus0, put_plus1, upd_N, upd_size, q]) fun s1 H1 hp => ?_
      try simp only [thenW_n, thenW_e, thenW_r, blkW_n, blkW_e, blkW_r, if_true]
      exact kR _ _ hp
/-- The first rows of the product. -/
def nxR (M : List (List Int)) (X : Nat → Int) (i : Nat) : List (List AV) := (List.range i).map fun i => gs (rwL (prF M X) M.length i)
theorem nxR_s (X : Nat → Int) (i : Nat) : nxR M X (i + 1) = nxR M X i ++ [gs (rwL (prF M X) M.length i)] := by simp [nxR, List.range_succ]
theorem c46_i (J : CallF) (hm : isMat M = true) {H0 : Heap} {X : Nat → Int} (hX : ∀ x, 0 ≤ X x ∧ X x ≤ mostP) {b v q0 k m : Nat} {cs rs : List AV} (E : E46 M X H0 b v q0 cs rs) : ∀ d i, i + d = M.length →
    (prOk M X i → Tr tbl J c46_l3 (fun s h => ∃ xn, TB H0 h xn (nxR M X i) ∧ s.get [] = .slice b 0 M.length v ∧ s.get [false] = G k ∧ s.get [true, true] = G M.length ∧ s.get [false, false, false] = .slice q0 0 M.length M.length ∧ s.get [true, true, false] = G m ∧ s.get [false, false, true] = xn ∧ s.get [true, false, true] = G i) (.exit 4)
      (fun s h => ∃ xn, TB H0 h xn (nxR M X M.length) ∧ s.get [] = .slice b 0 M.length v ∧ s.get [false] = G k ∧ s.get [true, true] = G M.length ∧ s.get [true, true, false] = G m ∧ s.get [false, false, true] = xn)) ∧
    (¬ prOk M X i → Tr tbl J c46_l3 (fun s h => ∃ xn, TB H0 h xn (nxR M X i) ∧ s.get [] = .slice b 0 M.length v ∧ s.get [false] = G k ∧ s.get [true, true] = G M.length ∧ s.get [false, false, false] = .slice q0 0 M.length M.length ∧ s.get [true, true, false] = G m ∧ s.get [false, false, true] = xn ∧ s.get [true, false, true] = G i) .ret (fun s h => s.get [true, false] = .nils ∧ s.get [false, true] = .bool false)) := by
  have h8 := isMat_n hm
  intro d
  induction d with
  | zero =>
    intro i hi
    obtain rfl : i = M.length := by omega
    refine ⟨fun _ => Tr.out ?_ (by simp), fun c => absurd (fun j' a b => by omega) c⟩
    clear E
    refine Tr.w fun s1 H1 hp R kR => W.trim ?_
    obtain ⟨xn, tb, q⟩ := hp
    refine W.assoc ?_
    refine W.seq (W.chunk ?_)
    simp (disch := first | omega | exact getEq rfl | exact getO0 | exact Nat.le_of_ble_eq_true rfl) [c46_o13, app_growP, app_noneP, plus_N, plus_at0, put_plus0, put_plus1, upd_N, upd_size, q]
    refine W.seq (W.chunk ?_)
    simp (disch := first | omega | exact getEq rfl | exact getO0 | exact Nat.le_of_ble_eq_true rfl) [app_growP, app_noneP, plus_N, plus_at0, put_plus0, put_plus1, upd_N, upd_size, q]
    exact kR _ _ ⟨xn, tb, by simp [T.get, q]⟩
  | succ d ih =>
    intro i hi
    have hin : i < M.length := by omega
    obtain ⟨ih1, ih2⟩ := ih (i + 1) (by omega)
    rw [prOk_s hin]
    have mk1 := fun H => mkSl_ok H 8 (G 0) M.length (M.length : Int) rfl (by omega)
    have rp := gl_rep M.length
    have r0 := rwP_0 (M := M) X i
    by_cases c : rwOk M X i 0
    · have step : Tr tbl J (.trim [[], [false], [true, true], [false, false, false], [true, true, false], [false, false, true], [true, false, true]] c46_b3) (fun s h => ∃ xn, TB H0 h xn (nxR M X i) ∧ s.get [] = .slice b 0 M.length v ∧ s.get [false] = G k ∧ s.get [true, true] = G M.length ∧ s.get [false, false, false] = .slice q0 0 M.length M.length ∧ s.get [true, true, false] = G m ∧ s.get [false, false, true] = xn ∧ s.get [true, false, true] = G i) .normal
          (fun s h => ∃ xn, TB H0 h xn (nxR M X (i + 1)) ∧ s.get [] = .slice b 0 M.length v ∧ s.get [false] = G k ∧ s.get [true, true] = G M.length ∧ s.get [false, false, false] = .slice q0 0 M.length M.length ∧ s.get [true, true, false] = G m ∧ s.get [false, false, true] = xn ∧ s.get [true, false, true] = G ((i + 1 : Nat) : Int)) := by
        refine Tr.w fun s1 H1 hp R kR => W.trim ?_
        obtain ⟨xn, tb, q⟩ := hp
        obtain ⟨l1, l2⟩ := c46_j (k := k) (m := m) J hm hX (E.kp tb.k) hin xn M.length 0 (by omega)
        have l1 := l1 c
        rw [r0, rwP_n X hin h8.2] at l1
        have lr : (gs (rwL (prF M X) M.length i)).length = M.length := by simp [rwL, lf_len]
        have k1 : Kp (fun _ => False) H1 (H1.plus [.cells 1 M.length (gs (rwL (prF M X) M.length i))]) := Kp.plus _ _
        obtain ⟨x1, e, h2, q1, q2, tb2, _⟩ := (tb.kp k1).app (cs := gs (rwL (prF M X) M.length i)) (b := H1.size) (H1.plus [.cells 1 M.length (gs (rwL (prF M X) M.length i))]).size (by rw [lr]; exact plus_at0 _ _ _ _ rfl) ⟨fun e => by
          obtain ⟨rs, lv, _⟩ := tb.r
          have := lv.lt e; omega, tb.k.size⟩ (by simp [nxR]; omega)
        rw [← nxR_s] at tb2
        rw [lr] at q1 q2
        have f1 := app1_at (H1.plus [.cells 1 M.length (gs (rwL (prF M X) M.length i))]) (.slice H1.size 0 M.length M.length)
        clear l2 tb ih1 ih2 ih E
        generalize gs (rwL (prF M X) M.length i) = c2 at *
        generalize gs (lf (fun _ => 0) M.length) = cz at *
        generalize hn : M.length = n at *
        refine W.assoc ?_
        refine W.seq (W.chunk ?_)
        simp (disch := first | omega | exact getEq rfl | exact getO0 | exact Nat.le_of_ble_eq_true rfl) [c46_o13, app_growP, app_noneP, plus_N, plus_at0, put_plus0, put_plus1, upd_N, upd_size, q]
        refine W.seq (W.chunk ?_)
        simp (disch := first | omega | exact getEq rfl | exact getO0 | exact Nat.le_of_ble_eq_true rfl) [app_growP, app_noneP, plus_N, plus_at0, put_plus0, put_plus1, upd_N, upd_size, q]
        refine W.seq (W.block ?_)
        refine W.seq (W.chunk ?_)
        simp (disch := first | omega | exact getEq rfl | exact getO0 | exact Nat.le_of_ble_eq_true rfl) [-act, c46_o14, app_growP, app_noneP, plus_N, plus_at0, put_plus0, put_plus1, upd_N, upd_size, q, act_move, act_mkSl, mk1, rp]
        refine W.assoc ?_
        refine W.seq (W.chunk ?_)
        simp (disch := first | omega | exact getEq rfl | exact getO0 | exact Nat.le_of_ble_eq_true rfl) [c46_o15, app_growP, app_noneP, plus_N, plus_at0, put_plus0, put_plus1, upd_N, upd_size, q]
        refine W.seq (W.block ?_)
        refine W.use (l1) (by simp (disch := first | omega | exact getEq rfl | exact getO0 | exact Nat.le_of_ble_eq_true rfl) [app_growP, app_noneP, plus_N, plus_at0, put_plus0, put_plus1, upd_N, upd_size, q]) fun s1 H1 hp => ?_
        obtain ⟨rfl, q⟩ := hp
        try simp only [thenW_n, thenW_e, thenW_r, blkW_n, blkW_e, blkW_r, if_true]
        refine W.chunk ?_
        simp (disch := first | omega | exact getEq rfl | exact getO0 | exact Nat.le_of_ble_eq_true rfl) [c46_o27, app_growP, app_noneP, plus_N, plus_at0, put_plus0, put_plus1, upd_N, upd_size, q, elems, rdOf, f1, q1, q2]
        refine W.chunk ?_
        simp (disch := first | omega | exact getEq rfl | exact getO0 | exact Nat.le_of_ble_eq_true rfl) [c46_o28, app_growP, app_noneP, plus_N, plus_at0, put_plus0, put_plus1, upd_N, upd_size, q]
        exact kR _ _ ⟨_, tb2, by simp [T.get, q]⟩
      exact ⟨fun q => Tr.next step (ih1 q.2), fun q => Tr.next step (ih2 (fun r => q ⟨c, r⟩))⟩
    · refine ⟨fun q => absurd q.1 c, fun _ => Tr.out ?_ (by simp)⟩
      refine Tr.w fun s1 H1 hp R kR => W.trim ?_
      obtain ⟨xn, tb, q⟩ := hp
      obtain ⟨l1, l2⟩ := c46_j (k := k) (m := m) J hm hX (E.kp tb.k) hin xn M.length 0 (by omega)
      have l2 := l2 c
      rw [r0] at l2
      clear l1 tb ih1 ih2 ih E
      generalize gs (lf (fun _ => 0) M.length) = cz at *
      generalize hn : M.length = n at *
      refine W.assoc ?_
      refine W.seq (W.chunk ?_)
      simp (disch := first | omega | exact getEq rfl | exact getO0 | exact Nat.le_of_ble_eq_true rfl) [c46_o13, app_growP, app_noneP, plus_N, plus_at0, put_plus0, put_plus1, upd_N, upd_size, q]
      refine W.seq (W.chunk ?_)
      simp (disch := first | omega | exact getEq rfl | exact getO0 | exact Nat.le_of_ble_eq_true rfl) [app_growP, app_noneP, plus_N, plus_at0, put_plus0, put_plus1, upd_N, upd_size, q]
      refine W.seq (W.block ?_)
      refine W.seq (W.chunk ?_)
      simp (disch := first | omega | exact getEq rfl | exact getO0 | exact Nat.le_of_ble_eq_true rfl) [-act, c46_o14, app_growP, app_noneP, plus_N, plus_at0, put_plus0, put_plus1, upd_N, upd_size, q, act_move, act_mkSl, mk1, rp]
      refine W.assoc ?_
      refine W.seq (W.chunk ?_)
      simp (disch := first | omega | exact getEq rfl | exact getO0 | exact Nat.le_of_ble_eq_true rfl) [c46_o15, app_growP, app_noneP, plus_N, plus_at0, put_plus0, put_plus1, upd_N, upd_size, q]
      refine W.seq (W.block ?_)
      refine W.use (l2) (by simp (disch := first | omega | exact getEq rfl | exact getO0 | exact Nat.le_of_ble_eq_true rfl) [app_growP, app_noneP, plus_N, plus_at0, put_plus0, put_plus1, upd_N, upd_size, q]) fun s1 H1 hp => ?_
      try simp only [thenW_n, thenW_e, thenW_r, blkW_n, blkW_e, blkW_r, if_true]
      exact kR _ _ hp
end

end Go.Proofs.Ytjeemgaoonapgaa.Ev
