/-
  The reference's Polynomial, its loops. No condition.
-/
import Derived.Test.YtjeemgaoonapgaaRPoly2
set_option linter.unusedVariables false
set_option linter.unusedSimpArgs false
namespace Go.Proofs.Ytjeemgaoonapgaa.Ev
open Go Go.AEv

attribute [local simp] evFunc initS evOps_c evTrim_c evSkip_c evExit_c evRet_c evSeq_c evCond_c evBlock_c evDraw_c runOps_n runOps_c exec_n exec_g pure1_c act AOpd.ev T.get T.set T.put evBin evUn forceT_eq forceV_eq forceL_eq evRess evRes one keep runFP_n runFP_c app_none AV.flats AV.flat came_some List.getElem?_cons_zero List.getElem?_cons_succ beqT wrapI idxI tdivI tmodI decT decF ibT ibF inT inF evScope_c if_pos if_neg Cm_some thenW_n thenW_e thenW_r blkW_n blkW_e blkW_r goI kn putAt AV.cells fillA loadA takeA mk Eff.isAll Eff.isNone Eff.commutes Eff.spares okPair apart eqAgg fits LK.fits allEq aveq eqk mmA

theorem act_bs (call : CallF) (h0 : Heap) (s : T) (h : Heap) (j : Option Nat) (g len : Nat) (z : List AV) (ps : List (Nat × Nat × AOpd)) : act call h0 s h (.buildSlice j g len z ps) = match fillA s ps z with
    | some c => if c.length = len * g then (let m := mk h h0.size j (.cells g (len * g) c); some (.slice m.1 0 len (len * g), { eff := m.2 })) else none
    | none => none := rfl
theorem act_app (call : CallF) (h0 : Heap) (s : T) (h : Heap) (j : Option Nat) (g bytes : Nat) (x y : AOpd) : act call h0 s h (.append j g bytes x y) = match elems h g (y.ev s) with
    | some (n, ys) => (appA h h0.size j g bytes n ys (x.ev s)).map fun (v, e) => (v, { reads := rdOf g (y.ev s), eff := e })
    | none => none := rfl
section
variable {M : List (List Int)}
/-- A row of the next square, as far as j and h. -/
def rQ (M : List (List Int)) (X : Nat → Int) (i j h z : Nat) : Int := if z < j then w6 (sP M X i z M.length) else if z = j then w6 (sP M X i j h) else 0
theorem rQ_0 (X : Nat → Int) (i : Nat) : rQ M X i 0 0 = fun _ => 0 := by
  funext z; unfold rQ
  rw [if_neg (by omega)]
  split
  · exact w6_0
  · rfl
theorem rQ_h (X : Nat → Int) (i j : Nat) : rQ M X i j M.length = rQ M X i (j + 1) 0 := by
  funext z; unfold rQ
  by_cases h3 : z < j
  · rw [if_pos h3, if_pos (show z < j + 1 by omega)]
  · rw [if_neg h3]
    by_cases h4 : z = j
    · rw [if_pos h4, if_pos (show z < j + 1 by omega), h4]
    · rw [if_neg h4, if_neg (show ¬ z < j + 1 by omega)]
      split
      · exact w6_0.symm
      · rfl
theorem rQ_at (X : Nat → Int) (i j h : Nat) : rQ M X i j h j = w6 (sP M X i j h) := by
  unfold rQ; rw [if_neg (by omega), if_pos rfl]
theorem rQ_set {X : Nat → Int} {i j h : Nat} (hj : j < M.length) : (gs (lf (rQ M X i j h) M.length)).set j (G (w6 (sP M X i j h + ent M i h * X (h * 8 + j)))) = gs (lf (rQ M X i j (h + 1)) M.length) := by
  rw [gl_set _ _ _ _ hj]
  congr 1
  apply lf_ext
  intro z hz
  unfold rQ
  by_cases e : z = j
  · rw [if_pos e, if_neg (by omega), if_pos e]; rfl
  · rw [if_neg e, if_neg e, if_neg e]
theorem rQ_dg {X : Nat → Int} {c : Int} {i : Nat} (hi : i < M.length) (h8 : M.length ≤ 8) : (gs (lf (rQ M X i M.length 0) M.length)).set i (G (w6 (w6 (sP M X i i M.length) + c))) = gs (rwL (nxX M X c) M.length i) := by
  rw [gl_set _ _ _ _ hi]
  unfold rwL
  congr 1
  apply lf_ext
  intro z hz
  unfold rQ nxX fuC
  rw [show (i * 8 + z) / 8 = i by omega, show (i * 8 + z) % 8 = z by omega, if_pos hi, if_pos hz]
  by_cases e : z = i
  · subst e; rw [if_pos rfl, if_pos hz]
  · rw [if_neg e, if_pos hz, if_neg (fun e' => e e'.symm)]

theorem n45_19 (J : CallF) {H : Heap} {n i j x b v q0 b2 rb rv k bo : Nat} {cs rs c2 cr c0 c1 : List AV} {a e S : Int} {xn : AV} (hx : x < n) (hi : i < n) (hj : j < n) (h8 : n ≤ 8) (gb : H.get b = .cells 1 v cs) (er : cs[i]? = some (.slice rb 0 n rv)) (gr : H.get rb = .cells 1 rv cr) (ee : cr[x]? = some (G e))
    (gq : H.get q0 = .cells 1 n rs) (e2 : rs[x]? = some (.slice b2 0 n n)) (g2 : H.get b2 = .cells 1 n c2) (ea : c2[j]? = some (G a)) (e0 : c0[j]? = some (G (w6 S))) (l0 : c0.length = n) (es : c0.set j (G (w6 (S + e * a))) = c1) :
    Tr tbl J c45_o19 (fun s h => h = H.plus [.cells 1 n c0] ∧ s.get [] = .slice b 0 n v ∧ s.get [false, false] = G n ∧ s.get [true, false] = .slice bo 0 (n + 1) (n + 1) ∧ s.get [false, true] = .slice q0 0 n n ∧ s.get [false, false, false] = G k ∧ s.get [true, false, false] = xn ∧ s.get [false, true, false] = G i ∧ s.get [true, true, false] = .slice H.size 0 n n ∧ s.get [false, false, true] = G j ∧ s.get [true, false, true] = G x) .normal (fun s h => h = H.plus [.cells 1 n c1] ∧ s.get [] = .slice b 0 n v ∧ s.get [false, false] = G n ∧ s.get [true, false] = .slice bo 0 (n + 1) (n + 1) ∧ s.get [false, true] = .slice q0 0 n n ∧ s.get [false, false, false] = G k ∧ s.get [true, false, false] = xn ∧ s.get [false, true, false] = G i ∧ s.get [true, true, false] = .slice H.size 0 n n ∧ s.get [false, false, true] = G j ∧ s.get [true, false, true] = G x) := by
  have gb' := fun c => plus_keep [c] gb (by simp)
  have gr' := fun c => plus_keep [c] gr (by simp)
  have gq' := fun c => plus_keep [c] gq (by simp)
  have g2' := fun c => plus_keep [c] g2 (by simp)
  have er' := getI er
  have ee' := getI ee
  have e2' := getI e2
  have ea' := getI ea
  have e0' := getI e0
  have hw : IntKind.i64.wrap (IntKind.i64.wrap S + IntKind.i64.wrap (e * a)) = IntKind.i64.wrap (S + e * a) := w6_add S (e * a)
  refine Tr.w fun s1 H1 hp R kR => ?_
  obtain ⟨rfl, q⟩ := hp
  refine W.chunk ?_
  simp (disch := first | omega | exact getEq rfl | exact getO0 | exact Nat.le_of_ble_eq_true rfl) [c45_o19, app_growP, app_noneP, plus_N, plus_at0, put_plus0, put_plus1, upd_N, upd_size, q, gb', gr', gq', g2', er, er', ee, ee', e2, e2', ea, ea', e0, e0', l0, hw, es, -evDraw_c, evDraw_0]
  exact kR _ _ (by simp [T.get, q])
theorem c45_x (J : CallF) (hm : isMat M = true) {H : Heap} {X : Nat → Int} {i j b v q0 k bo : Nat} {cs rs : List AV} (E : E46 M X H b v q0 cs rs) (hi : i < M.length) (hj : j < M.length) (xn : AV) :
    Tr tbl J c45_l1 (fun s h => h = H.plus [.cells 1 M.length (gs (lf (rQ M X i j 0) M.length))] ∧ s.get [] = .slice b 0 M.length v ∧ s.get [false, false] = G M.length ∧ s.get [true, false] = .slice bo 0 (M.length + 1) (M.length + 1) ∧ s.get [false, true] = .slice q0 0 M.length M.length ∧ s.get [false, false, false] = G k ∧ s.get [true, false, false] = xn ∧ s.get [false, true, false] = G i ∧ s.get [true, true, false] = .slice H.size 0 M.length M.length ∧ s.get [false, false, true] = G j ∧ s.get [true, false, true] = G ((0 : Nat) : Int)) (.exit 8) (fun s h => h = H.plus [.cells 1 M.length (gs (lf (rQ M X i j M.length) M.length))] ∧ s.get [] = .slice b 0 M.length v ∧ s.get [false, false] = G M.length ∧ s.get [true, false] = .slice bo 0 (M.length + 1) (M.length + 1) ∧ s.get [false, true] = .slice q0 0 M.length M.length ∧ s.get [false, false, false] = G k ∧ s.get [true, false, false] = xn ∧ s.get [false, true, false] = G i ∧ s.get [true, true, false] = .slice H.size 0 M.length M.length ∧ s.get [false, false, true] = G j) := by
  have h8 := isMat_n hm
  refine Tr.rounds (P := fun x => (fun s h => h = H.plus [.cells 1 M.length (gs (lf (rQ M X i j x) M.length))] ∧ s.get [] = .slice b 0 M.length v ∧ s.get [false, false] = G M.length ∧ s.get [true, false] = .slice bo 0 (M.length + 1) (M.length + 1) ∧ s.get [false, true] = .slice q0 0 M.length M.length ∧ s.get [false, false, false] = G k ∧ s.get [true, false, false] = xn ∧ s.get [false, true, false] = G i ∧ s.get [true, true, false] = .slice H.size 0 M.length M.length ∧ s.get [false, false, true] = G j ∧ s.get [true, false, true] = G x)) (M := M.length) (fun x hx => ?_) ?_ (by simp) 0 (by omega)
  · refine Tr.w fun s1 H1 hp R kR => W.trim ?_
    obtain ⟨rfl, q⟩ := hp
    obtain ⟨rb, rv, er, gr⟩ := E.mx.r i hi
    obtain ⟨b2, e2, g2⟩ := E.r x hx
    have t := n45_19 (bo := bo) (k := k) (xn := xn) J hx hi hj h8.2 E.mx.g er gr (row_at hm hi hx) E.gq e2 g2 (rwL_at X hj) (S := sP M X i j x) (by rw [gl_at _ hj, rQ_at]) (gl_len _ _) (rQ_set hj)
    clear E er gr e2 g2
    generalize gs (lf (rQ M X i j (x + 1)) M.length) = c1 at *
    generalize gs (lf (rQ M X i j x) M.length) = c0 at *
    generalize M.length = n at *
    refine W.assoc ?_
    refine W.seq (W.chunk ?_)
    simp (disch := first | omega | exact getEq rfl | exact getO0 | exact Nat.le_of_ble_eq_true rfl) [c45_o18, app_growP, app_noneP, plus_N, plus_at0, put_plus0, put_plus1, upd_N, upd_size, q]
    refine W.seq (W.chunk ?_)
    simp (disch := first | omega | exact getEq rfl | exact getO0 | exact Nat.le_of_ble_eq_true rfl) [app_growP, app_noneP, plus_N, plus_at0, put_plus0, put_plus1, upd_N, upd_size, q]
    refine W.seq (W.block ?_)
    refine W.use (t) (by simp (disch := first | omega | exact getEq rfl | exact getO0 | exact Nat.le_of_ble_eq_true rfl) [app_growP, app_noneP, plus_N, plus_at0, put_plus0, put_plus1, upd_N, upd_size, q]) fun s1 H1 hp => ?_
    obtain ⟨rfl, q⟩ := hp
    try simp only [thenW_n, thenW_e, thenW_r, blkW_n, blkW_e, blkW_r, if_true]
    refine W.chunk ?_
    simp (disch := first | omega | exact getEq rfl | exact getO0 | exact Nat.le_of_ble_eq_true rfl) [c45_o20, app_growP, app_noneP, plus_N, plus_at0, put_plus0, put_plus1, upd_N, upd_size, q]
    exact kR _ _ (by simp [T.get, q])
  · refine Tr.w fun s1 H1 hp R kR => W.trim ?_
    obtain ⟨rfl, q⟩ := hp
    clear E
    generalize M.length = n at *
    refine W.assoc ?_
    refine W.seq (W.chunk ?_)
    simp (disch := first | omega | exact getEq rfl | exact getO0 | exact Nat.le_of_ble_eq_true rfl) [c45_o18, app_growP, app_noneP, plus_N, plus_at0, put_plus0, put_plus1, upd_N, upd_size, q]
    refine W.seq (W.chunk ?_)
    simp (disch := first | omega | exact getEq rfl | exact getO0 | exact Nat.le_of_ble_eq_true rfl) [app_growP, app_noneP, plus_N, plus_at0, put_plus0, put_plus1, upd_N, upd_size, q]
    exact kR _ _ (by simp [T.get, q])
theorem c45_j (J : CallF) (hm : isMat M = true) {H : Heap} {X : Nat → Int} {i b v q0 k bo : Nat} {cs rs : List AV} (E : E46 M X H b v q0 cs rs) (hi : i < M.length) (xn : AV) :
    Tr tbl J c45_l2 (fun s h => h = H.plus [.cells 1 M.length (gs (lf (rQ M X i 0 0) M.length))] ∧ s.get [] = .slice b 0 M.length v ∧ s.get [false, false] = G M.length ∧ s.get [true, false] = .slice bo 0 (M.length + 1) (M.length + 1) ∧ s.get [false, true] = .slice q0 0 M.length M.length ∧ s.get [false, false, false] = G k ∧ s.get [true, false, false] = xn ∧ s.get [false, true, false] = G i ∧ s.get [true, true, false] = .slice H.size 0 M.length M.length ∧ s.get [false, false, true] = G ((0 : Nat) : Int)) (.exit 6) (fun s h => h = H.plus [.cells 1 M.length (gs (lf (rQ M X i M.length 0) M.length))] ∧ s.get [] = .slice b 0 M.length v ∧ s.get [false, false] = G M.length ∧ s.get [true, false] = .slice bo 0 (M.length + 1) (M.length + 1) ∧ s.get [false, true] = .slice q0 0 M.length M.length ∧ s.get [false, false, false] = G k ∧ s.get [true, false, false] = xn ∧ s.get [false, true, false] = G i ∧ s.get [true, true, false] = .slice H.size 0 M.length M.length) := by
  have h8 := isMat_n hm
  refine Tr.rounds (P := fun j => (fun s h => h = H.plus [.cells 1 M.length (gs (lf (rQ M X i j 0) M.length))] ∧ s.get [] = .slice b 0 M.length v ∧ s.get [false, false] = G M.length ∧ s.get [true, false] = .slice bo 0 (M.length + 1) (M.length + 1) ∧ s.get [false, true] = .slice q0 0 M.length M.length ∧ s.get [false, false, false] = G k ∧ s.get [true, false, false] = xn ∧ s.get [false, true, false] = G i ∧ s.get [true, true, false] = .slice H.size 0 M.length M.length ∧ s.get [false, false, true] = G j)) (M := M.length) (fun j hj => ?_) ?_ (by simp) 0 (by omega)
  · refine Tr.w fun s1 H1 hp R kR => W.trim ?_
    obtain ⟨rfl, q⟩ := hp
    have l1 := c45_x (bo := bo) (k := k) J hm E hi hj xn
    rw [rQ_h] at l1
    clear E
    generalize gs (lf (rQ M X i (j + 1) 0) M.length) = c1 at *
    generalize gs (lf (rQ M X i j 0) M.length) = c0 at *
    generalize M.length = n at *
    refine W.assoc ?_
    refine W.seq (W.chunk ?_)
    simp (disch := first | omega | exact getEq rfl | exact getO0 | exact Nat.le_of_ble_eq_true rfl) [c45_o16, app_growP, app_noneP, plus_N, plus_at0, put_plus0, put_plus1, upd_N, upd_size, q]
    refine W.seq (W.chunk ?_)
    simp (disch := first | omega | exact getEq rfl | exact getO0 | exact Nat.le_of_ble_eq_true rfl) [app_growP, app_noneP, plus_N, plus_at0, put_plus0, put_plus1, upd_N, upd_size, q]
    refine W.seq (W.block ?_)
    refine W.seq (W.chunk ?_)
    simp (disch := first | omega | exact getEq rfl | exact getO0 | exact Nat.le_of_ble_eq_true rfl) [c45_o17, app_growP, app_noneP, plus_N, plus_at0, put_plus0, put_plus1, upd_N, upd_size, q]
    refine W.block ?_
    refine W.use (l1) (by simp (disch := first | omega | exact getEq rfl | exact getO0 | exact Nat.le_of_ble_eq_true rfl) [app_growP, app_noneP, plus_N, plus_at0, put_plus0, put_plus1, upd_N, upd_size, q]) fun s1 H1 hp => ?_
    obtain ⟨rfl, q⟩ := hp
    try simp only [thenW_n, thenW_e, thenW_r, blkW_n, blkW_e, blkW_r, if_true]
    refine W.chunk ?_
    simp (disch := first | omega | exact getEq rfl | exact getO0 | exact Nat.le_of_ble_eq_true rfl) [c45_o21, app_growP, app_noneP, plus_N, plus_at0, put_plus0, put_plus1, upd_N, upd_size, q]
    exact kR _ _ (by simp [T.get, q])
  · refine Tr.w fun s1 H1 hp R kR => W.trim ?_
    obtain ⟨rfl, q⟩ := hp
    clear E
    generalize M.length = n at *
    refine W.assoc ?_
    refine W.seq (W.chunk ?_)
    simp (disch := first | omega | exact getEq rfl | exact getO0 | exact Nat.le_of_ble_eq_true rfl) [c45_o16, app_growP, app_noneP, plus_N, plus_at0, put_plus0, put_plus1, upd_N, upd_size, q]
    refine W.seq (W.chunk ?_)
    simp (disch := first | omega | exact getEq rfl | exact getO0 | exact Nat.le_of_ble_eq_true rfl) [app_growP, app_noneP, plus_N, plus_at0, put_plus0, put_plus1, upd_N, upd_size, q]
    exact kR _ _ (by simp [T.get, q])
/-- The first rows of the next square. -/
def nqR (M : List (List Int)) (X : Nat → Int) (c : Int) (i : Nat) : List (List AV) := (List.range i).map fun i => gs (rwL (nxX M X c) M.length i)
theorem nqR_s (X : Nat → Int) (c : Int) (i : Nat) : nqR M X c (i + 1) = nqR M X c i ++ [gs (rwL (nxX M X c) M.length i)] := by simp [nqR, List.range_succ]
theorem c45_i (J : CallF) (hm : isMat M = true) {H0 : Heap} {X C : Nat → Int} {b v q0 k bo : Nat} {cs rs : List AV} (E : E46 M X H0 b v q0 cs rs) (go : H0.get bo = .cells 1 (M.length + 1) (gs (lf C (M.length + 1)))) (hk : k < M.length) :
    Tr tbl J c45_l3 (fun s h => h = H0 ∧ s.get [] = .slice b 0 M.length v ∧ s.get [false, false] = G M.length ∧ s.get [true, false] = .slice bo 0 (M.length + 1) (M.length + 1) ∧ s.get [false, true] = .slice q0 0 M.length M.length ∧ s.get [false, false, false] = G ((k + 1 : Nat) : Int) ∧ s.get [true, false, false] = .nils ∧ s.get [false, true, false] = G ((0 : Nat) : Int)) (.exit 4)
      (fun s h => ∃ xn, TB H0 h xn (nqR M X (C (M.length - k)) M.length) ∧ s.get [] = .slice b 0 M.length v ∧ s.get [false, false] = G M.length ∧ s.get [true, false] = .slice bo 0 (M.length + 1) (M.length + 1) ∧ s.get [false, false, false] = G ((k + 1 : Nat) : Int) ∧ s.get [true, false, false] = xn) := by
  have h8 := isMat_n hm
  refine Tr.pre (P := fun s h => ∃ xn, TB H0 h xn (nqR M X (C (M.length - k)) 0) ∧ s.get [] = .slice b 0 M.length v ∧ s.get [false, false] = G M.length ∧ s.get [true, false] = .slice bo 0 (M.length + 1) (M.length + 1) ∧ s.get [false, true] = .slice q0 0 M.length M.length ∧ s.get [false, false, false] = G ((k + 1 : Nat) : Int) ∧ s.get [true, false, false] = xn ∧ s.get [false, true, false] = G ((0 : Nat) : Int)) (fun s h q => ⟨.nils, by rw [q.1]; exact TB.nil H0, q.2⟩) ?_
  refine Tr.rounds (P := fun i s h => ∃ xn, TB H0 h xn (nqR M X (C (M.length - k)) i) ∧ s.get [] = .slice b 0 M.length v ∧ s.get [false, false] = G M.length ∧ s.get [true, false] = .slice bo 0 (M.length + 1) (M.length + 1) ∧ s.get [false, true] = .slice q0 0 M.length M.length ∧ s.get [false, false, false] = G ((k + 1 : Nat) : Int) ∧ s.get [true, false, false] = xn ∧ s.get [false, true, false] = G i) (M := M.length) (fun i hi => ?_) ?_ (by simp) 0 (by omega)
  · refine Tr.w fun s1 H1 hp R kR => W.trim ?_
    obtain ⟨xn, tb, q⟩ := hp
    have l2 := c45_j (bo := bo) (k := k + 1) J hm (E.kp tb.k) hi xn
    rw [rQ_0] at l2
    have mk1 := fun H => mkSl_ok H 8 (G 0) M.length (M.length : Int) rfl (by omega)
    have rp := gl_rep M.length
    have lr : (gs (rwL (nxX M X (C (M.length - k))) M.length i)).length = M.length := by simp [rwL, lf_len]
    have k1 : Kp (fun _ => False) H1 (H1.plus [.cells 1 M.length (gs (rwL (nxX M X (C (M.length - k))) M.length i))]) := Kp.plus _ _
    obtain ⟨x1, e, h2, q1, q2, tb2, _⟩ := (tb.kp k1).app (cs := gs (rwL (nxX M X (C (M.length - k))) M.length i)) (b := H1.size) (H1.plus [.cells 1 M.length (gs (rwL (nxX M X (C (M.length - k))) M.length i))]).size (by rw [lr]; exact plus_at0 _ _ _ _ rfl) ⟨fun e => by
      obtain ⟨rs, lv, _⟩ := tb.r
      have := lv.lt e; omega, tb.k.size⟩ (by simp [nqR]; omega)
    rw [← nqR_s] at tb2
    rw [lr] at q1 q2
    have f1 := app1_at (H1.plus [.cells 1 M.length (gs (rwL (nxX M X (C (M.length - k))) M.length i))]) (.slice H1.size 0 M.length M.length)
    have ed : (gs (lf (rQ M X i M.length 0) M.length))[i]? = some (G (w6 (sP M X i i M.length))) := by rw [gl_at _ hi]; unfold rQ; rw [if_pos hi]
    have es := rQ_dg (M := M) (X := X) (c := C (M.length - k)) hi h8.2
    have ec : (gs (lf C (M.length + 1)))[M.length - k]? = some (G (C (M.length - k))) := gl_at C (by omega)
    have lc := gl_len C (M.length + 1)
    have l3 := gl_len (rQ M X i M.length 0) M.length
    have ed' := getI ed
    have ec' := getI ec
    have go' := fun c => plus_keep [c] (tb.k.at go (by simp) id) (by simp)
    have hix : ((M.length : Int) - (k : Int)).toNat = M.length - k := by omega
    have hsub : (M.length : Int) - ((k : Int) + 1) + 1 = (M.length : Int) - k := by omega
    clear tb E go
    generalize C (M.length - k) = c at *
    generalize w6 (sP M X i i M.length) = z at *
    generalize gs (rwL (nxX M X c) M.length i) = c2 at *
    generalize gs (lf (rQ M X i M.length 0) M.length) = c1 at *
    generalize gs (lf (fun _ => 0) M.length) = cz at *
    generalize gs (lf C (M.length + 1)) = co at *
    generalize hn : M.length = n at *
    refine W.assoc ?_
    refine W.seq (W.chunk ?_)
    simp (disch := first | omega | exact getEq rfl | exact getO0 | exact Nat.le_of_ble_eq_true rfl) [c45_o13, app_growP, app_noneP, plus_N, plus_at0, put_plus0, put_plus1, upd_N, upd_size, q]
    refine W.seq (W.chunk ?_)
    simp (disch := first | omega | exact getEq rfl | exact getO0 | exact Nat.le_of_ble_eq_true rfl) [app_growP, app_noneP, plus_N, plus_at0, put_plus0, put_plus1, upd_N, upd_size, q]
    refine W.seq (W.block ?_)
    refine W.seq (W.chunk ?_)
    simp (disch := first | omega | exact getEq rfl | exact getO0 | exact Nat.le_of_ble_eq_true rfl) [-act, c45_o14, app_growP, app_noneP, plus_N, plus_at0, put_plus0, put_plus1, upd_N, upd_size, q, act_move, act_mkSl, mk1, rp]
    refine W.assoc ?_
    refine W.seq (W.chunk ?_)
    simp (disch := first | omega | exact getEq rfl | exact getO0 | exact Nat.le_of_ble_eq_true rfl) [c45_o15, app_growP, app_noneP, plus_N, plus_at0, put_plus0, put_plus1, upd_N, upd_size, q]
    refine W.seq (W.block ?_)
    refine W.use (l2) (by simp (disch := first | omega | exact getEq rfl | exact getO0 | exact Nat.le_of_ble_eq_true rfl) [app_growP, app_noneP, plus_N, plus_at0, put_plus0, put_plus1, upd_N, upd_size, q]) fun s1 H1 hp => ?_
    obtain ⟨rfl, q⟩ := hp
    try simp only [thenW_n, thenW_e, thenW_r, blkW_n, blkW_e, blkW_r, if_true]
    refine W.seq (W.chunk ?_)
    simp (disch := first | omega | exact getEq rfl | exact getO0 | exact Nat.le_of_ble_eq_true rfl) [c45_o22, app_growP, app_noneP, plus_N, plus_at0, put_plus0, put_plus1, upd_N, upd_size, q, go', ed, ed', ec, ec', lc, l3, hix, hsub, es, -evDraw_c, evDraw_0]
    refine W.chunk ?_
    simp (disch := first | omega | exact getEq rfl | exact getO0 | exact Nat.le_of_ble_eq_true rfl) [c45_o23, app_growP, app_noneP, plus_N, plus_at0, put_plus0, put_plus1, upd_N, upd_size, q, elems, rdOf, f1, q1, q2]
    refine W.chunk ?_
    simp (disch := first | omega | exact getEq rfl | exact getO0 | exact Nat.le_of_ble_eq_true rfl) [c45_o24, app_growP, app_noneP, plus_N, plus_at0, put_plus0, put_plus1, upd_N, upd_size, q]
    exact kR _ _ ⟨_, tb2, by simp [T.get, q]⟩
  · refine Tr.w fun s1 H1 hp R kR => W.trim ?_
    obtain ⟨xn, tb, q⟩ := hp
    clear E
    refine W.assoc ?_
    refine W.seq (W.chunk ?_)
    simp (disch := first | omega | exact getEq rfl | exact getO0 | exact Nat.le_of_ble_eq_true rfl) [c45_o13, app_growP, app_noneP, plus_N, plus_at0, put_plus0, put_plus1, upd_N, upd_size, q]
    refine W.seq (W.chunk ?_)
    simp (disch := first | omega | exact getEq rfl | exact getO0 | exact Nat.le_of_ble_eq_true rfl) [app_growP, app_noneP, plus_N, plus_at0, put_plus0, put_plus1, upd_N, upd_size, q]
    exact kR _ _ ⟨_, tb, by simp [T.get, q]⟩
theorem c45_l4_ok (J : CallF) (hm : isMat M = true) {H : Heap} {X : Nat → Int} {i b v q0 k bo : Nat} {cs rs : List AV} {S : Int} (E : E46 M X H b v q0 cs rs) (hi : i < M.length) :
    Tr tbl J c45_l4 (fun s h => h = H ∧ s.get [] = .slice b 0 M.length v ∧ s.get [false, false] = G M.length ∧ s.get [true, false] = .slice bo 0 (M.length + 1) (M.length + 1) ∧ s.get [false, true] = .slice q0 0 M.length M.length ∧ s.get [false, false, false] = G k ∧ s.get [false, true, true] = G (w6 (S + tI M X i 0)) ∧ s.get [true, true, true] = G i ∧ s.get [false, false, false, false] = G ((0 : Nat) : Int)) (.exit 12) (fun s h => h = H ∧ s.get [] = .slice b 0 M.length v ∧ s.get [false, false] = G M.length ∧ s.get [true, false] = .slice bo 0 (M.length + 1) (M.length + 1) ∧ s.get [false, true] = .slice q0 0 M.length M.length ∧ s.get [false, false, false] = G k ∧ s.get [false, true, true] = G (w6 (S + tI M X i M.length)) ∧ s.get [true, true, true] = G i) := by
  have h8 := isMat_n hm
  refine Tr.rounds (P := fun x => (fun s h => h = H ∧ s.get [] = .slice b 0 M.length v ∧ s.get [false, false] = G M.length ∧ s.get [true, false] = .slice bo 0 (M.length + 1) (M.length + 1) ∧ s.get [false, true] = .slice q0 0 M.length M.length ∧ s.get [false, false, false] = G k ∧ s.get [false, true, true] = G (w6 (S + tI M X i x)) ∧ s.get [true, true, true] = G i ∧ s.get [false, false, false, false] = G x)) (M := M.length) (fun x hx => ?_) ?_ (by simp) 0 (by omega)
  · refine Tr.w fun s1 H1 hp R kR => W.trim ?_
    obtain ⟨rfl, q⟩ := hp
    obtain ⟨rb, rv, er, gr⟩ := E.mx.r i hi
    obtain ⟨b2, e2, g2⟩ := E.r x hx
    have gb := E.mx.g
    have gq := E.gq
    have ee := row_at hm hi hx
    have ea := rwL_at X (i := x) hi
    have er' := getI er
    have ee' := getI ee
    have e2' := getI e2
    have ea' := getI ea
    have te : tI M X i (x + 1) = tI M X i x + ent M i x * X (x * 8 + i) := rfl
    have hw : IntKind.i64.wrap (IntKind.i64.wrap (S + tI M X i x) + IntKind.i64.wrap (ent M i x * X (x * 8 + i))) = IntKind.i64.wrap (S + tI M X i (x + 1)) := by
      rw [te, ← Int.add_assoc]; exact w6_add _ _
    generalize tI M X i (x + 1) = t1 at *
    generalize tI M X i x = t0 at *
    generalize ent M i x = a at *
    generalize X (x * 8 + i) = bb at *
    clear E
    generalize gs (M.getD i []) = cr at *
    generalize gs (rwL X M.length x) = c2 at *
    generalize M.length = n at *
    refine W.assoc ?_
    refine W.seq (W.chunk ?_)
    simp (disch := first | omega | exact getEq rfl | exact getO0 | exact Nat.le_of_ble_eq_true rfl) [c45_o30, app_growP, app_noneP, plus_N, plus_at0, put_plus0, put_plus1, upd_N, upd_size, q]
    refine W.seq (W.chunk ?_)
    simp (disch := first | omega | exact getEq rfl | exact getO0 | exact Nat.le_of_ble_eq_true rfl) [app_growP, app_noneP, plus_N, plus_at0, put_plus0, put_plus1, upd_N, upd_size, q]
    refine W.seq (W.block ?_)
    refine W.chunk ?_
    simp (disch := first | omega | exact getEq rfl | exact getO0 | exact Nat.le_of_ble_eq_true rfl) [c45_o31, app_growP, app_noneP, plus_N, plus_at0, put_plus0, put_plus1, upd_N, upd_size, q, gb, gq, gr, g2, er, er', e2, e2', ee, ee', ea, ea', hw, -evDraw_c, evDraw_0]
    refine W.chunk ?_
    simp (disch := first | omega | exact getEq rfl | exact getO0 | exact Nat.le_of_ble_eq_true rfl) [c45_o32, app_growP, app_noneP, plus_N, plus_at0, put_plus0, put_plus1, upd_N, upd_size, q]
    exact kR _ _ (by simp [T.get, q])
  · refine Tr.w fun s1 H1 hp R kR => W.trim ?_
    obtain ⟨rfl, q⟩ := hp
    clear E
    generalize M.length = n at *
    refine W.assoc ?_
    refine W.seq (W.chunk ?_)
    simp (disch := first | omega | exact getEq rfl | exact getO0 | exact Nat.le_of_ble_eq_true rfl) [c45_o30, app_growP, app_noneP, plus_N, plus_at0, put_plus0, put_plus1, upd_N, upd_size, q]
    refine W.seq (W.chunk ?_)
    simp (disch := first | omega | exact getEq rfl | exact getO0 | exact Nat.le_of_ble_eq_true rfl) [app_growP, app_noneP, plus_N, plus_at0, put_plus0, put_plus1, upd_N, upd_size, q]
    exact kR _ _ (by simp [T.get, q])
theorem c45_l5_ok (J : CallF) (hm : isMat M = true) {H : Heap} {X : Nat → Int} {b v q0 k bo : Nat} {cs rs : List AV} (E : E46 M X H b v q0 cs rs) :
    Tr tbl J c45_l5 (fun s h => h = H ∧ s.get [] = .slice b 0 M.length v ∧ s.get [false, false] = G M.length ∧ s.get [true, false] = .slice bo 0 (M.length + 1) (M.length + 1) ∧ s.get [false, true] = .slice q0 0 M.length M.length ∧ s.get [false, false, false] = G k ∧ s.get [false, true, true] = G (w6 (tJ M X 0)) ∧ s.get [true, true, true] = G ((0 : Nat) : Int)) (.exit 10) (fun s h => h = H ∧ s.get [] = .slice b 0 M.length v ∧ s.get [false, false] = G M.length ∧ s.get [true, false] = .slice bo 0 (M.length + 1) (M.length + 1) ∧ s.get [false, true] = .slice q0 0 M.length M.length ∧ s.get [false, false, false] = G k ∧ s.get [false, true, true] = G (w6 (tJ M X M.length))) := by
  have h8 := isMat_n hm
  refine Tr.rounds (P := fun i => (fun s h => h = H ∧ s.get [] = .slice b 0 M.length v ∧ s.get [false, false] = G M.length ∧ s.get [true, false] = .slice bo 0 (M.length + 1) (M.length + 1) ∧ s.get [false, true] = .slice q0 0 M.length M.length ∧ s.get [false, false, false] = G k ∧ s.get [false, true, true] = G (w6 (tJ M X i)) ∧ s.get [true, true, true] = G i)) (M := M.length) (fun i hi => ?_) ?_ (by simp) 0 (by omega)
  · refine Tr.w fun s1 H1 hp R kR => W.trim ?_
    obtain ⟨rfl, q⟩ := hp
    have l4 := c45_l4_ok (bo := bo) (k := k) (S := tJ M X i) J hm E hi
    rw [show tJ M X i + tI M X i M.length = tJ M X (i + 1) from rfl, show tJ M X i + tI M X i 0 = tJ M X i from Int.add_zero _] at l4
    clear E
    generalize tJ M X (i + 1) = t1 at *
    generalize tJ M X i = t0 at *
    generalize M.length = n at *
    refine W.assoc ?_
    refine W.seq (W.chunk ?_)
    simp (disch := first | omega | exact getEq rfl | exact getO0 | exact Nat.le_of_ble_eq_true rfl) [c45_o28, app_growP, app_noneP, plus_N, plus_at0, put_plus0, put_plus1, upd_N, upd_size, q]
    refine W.seq (W.chunk ?_)
    simp (disch := first | omega | exact getEq rfl | exact getO0 | exact Nat.le_of_ble_eq_true rfl) [app_growP, app_noneP, plus_N, plus_at0, put_plus0, put_plus1, upd_N, upd_size, q]
    refine W.seq (W.block ?_)
    refine W.seq (W.chunk ?_)
    simp (disch := first | omega | exact getEq rfl | exact getO0 | exact Nat.le_of_ble_eq_true rfl) [c45_o29, app_growP, app_noneP, plus_N, plus_at0, put_plus0, put_plus1, upd_N, upd_size, q]
    refine W.block ?_
    refine W.use (l4) (by simp (disch := first | omega | exact getEq rfl | exact getO0 | exact Nat.le_of_ble_eq_true rfl) [app_growP, app_noneP, plus_N, plus_at0, put_plus0, put_plus1, upd_N, upd_size, q]) fun s1 H1 hp => ?_
    obtain ⟨rfl, q⟩ := hp
    try simp only [thenW_n, thenW_e, thenW_r, blkW_n, blkW_e, blkW_r, if_true]
    refine W.chunk ?_
    simp (disch := first | omega | exact getEq rfl | exact getO0 | exact Nat.le_of_ble_eq_true rfl) [c45_o33, app_growP, app_noneP, plus_N, plus_at0, put_plus0, put_plus1, upd_N, upd_size, q]
    exact kR _ _ (by simp [T.get, q])
  · refine Tr.w fun s1 H1 hp R kR => W.trim ?_
    obtain ⟨rfl, q⟩ := hp
    clear E
    generalize M.length = n at *
    refine W.assoc ?_
    refine W.seq (W.chunk ?_)
    simp (disch := first | omega | exact getEq rfl | exact getO0 | exact Nat.le_of_ble_eq_true rfl) [c45_o28, app_growP, app_noneP, plus_N, plus_at0, put_plus0, put_plus1, upd_N, upd_size, q]
    refine W.seq (W.chunk ?_)
    simp (disch := first | omega | exact getEq rfl | exact getO0 | exact Nat.le_of_ble_eq_true rfl) [app_growP, app_noneP, plus_N, plus_at0, put_plus0, put_plus1, upd_N, upd_size, q]
    exact kR _ _ (by simp [T.get, q])
end

end Go.Proofs.Ytjeemgaoonapgaa.Ev
