/-
  Polynomial. No condition.
-/
import Derived.Test.YtjeemgaoonapgaaRAdds
set_option linter.unusedVariables false
set_option linter.unusedSimpArgs false
namespace Go.Proofs.Ytjeemgaoonapgaa.Ev
open Go Go.AEv

attribute [local simp] evFunc initS evOps_c evTrim_c evSkip_c evExit_c evRet_c evSeq_c evCond_c evBlock_c evDraw_c runOps_n runOps_c exec_n exec_g pure1_c act AOpd.ev T.get T.set T.put evBin evUn forceT_eq forceV_eq forceL_eq evRess evRes one keep runFP_n runFP_c app_none AV.flats AV.flat came_some List.getElem?_cons_zero List.getElem?_cons_succ beqT wrapI idxI tdivI tmodI decT decF ibT ibF inT inF evScope_c if_pos if_neg Cm_some thenW_n thenW_e thenW_r blkW_n blkW_e blkW_r goI kn putAt AV.cells fillA loadA takeA mk Eff.isAll Eff.isNone Eff.commutes Eff.spares okPair apart eqAgg fits LK.fits allEq aveq eqk mmA

/-! ### Arithmetic modulo 2^64 -/
abbrev w6 (x : Int) : Int := IntKind.i64.wrap x
theorem w6_eq (x : Int) : w6 x = (x + 9223372036854775808) % 18446744073709551616 - 9223372036854775808 := by
  unfold w6 IntKind.wrap IntKind.bits IntKind.signed
  simp; omega
theorem w6_0 : w6 0 = 0 := by rw [w6_eq]; decide
theorem w6_add (x p : Int) : w6 (w6 x + w6 p) = w6 (x + p) := by
  simp only [w6_eq]; omega
section
variable {M : List (List Int)}
/-- A sum of the product of the matrix and a square. -/
def sP (M : List (List Int)) (X : Nat → Int) (i j h : Nat) : Int := sm (fun h => ent M i h * X (h * 8 + j)) h
def fuC (M : List (List Int)) (X : Nat → Int) (c : Int) (i j : Nat) : Int := if j < M.length then (if i = j then w6 (w6 (sP M X i j M.length) + c) else w6 (sP M X i j M.length)) else 0
/-- The next square. -/
def nxX (M : List (List Int)) (X : Nat → Int) (c : Int) (x : Nat) : Int := if x / 8 < M.length then fuC M X c (x / 8) (x % 8) else 0
def pP (M : List (List Int)) (X : Nat → Int) (c : Int) (i j h x : Nat) : Int := if x / 8 < i then fuC M X c (x / 8) (x % 8) else if x / 8 = i then (if x % 8 < j then w6 (sP M X i (x % 8) M.length) else if x % 8 = j then w6 (sP M X i j h) else 0) else 0
theorem pP_0 (X : Nat → Int) (c : Int) : pP M X c 0 0 0 = fun _ => 0 := by
  funext x; unfold pP
  rw [if_neg (by omega)]
  split
  · rw [if_neg (by omega)]; split
    · exact w6_0
    · rfl
  · rfl
theorem pP_h (X : Nat → Int) (c : Int) (i j : Nat) : pP M X c i j M.length = pP M X c i (j + 1) 0 := by
  funext x; unfold pP
  by_cases h1 : x / 8 < i
  · rw [if_pos h1, if_pos h1]
  · rw [if_neg h1, if_neg h1]
    by_cases h2 : x / 8 = i
    · rw [if_pos h2, if_pos h2]
      by_cases h3 : x % 8 < j
      · rw [if_pos h3, if_pos (show x % 8 < j + 1 by omega)]
      · rw [if_neg h3]
        by_cases h4 : x % 8 = j
        · rw [if_pos h4, if_pos (show x % 8 < j + 1 by omega), h4]
        · rw [if_neg h4, if_neg (show ¬ x % 8 < j + 1 by omega)]
          split
          · exact w6_0.symm
          · rfl
    · rw [if_neg h2, if_neg h2]
theorem pP_at {X : Nat → Int} {c : Int} {i j h : Nat} (hj : j < 8) : pP M X c i j h (i * 8 + j) = w6 (sP M X i j h) := by
  unfold pP
  rw [if_neg (by omega), if_pos (by omega), if_neg (by omega), if_pos (by omega)]
theorem pP_set {X : Nat → Int} {c : Int} {i j h : Nat} (hi : i < 8) (hj : j < 8) : (sq (pP M X c i j h)).set (i * 8 + j) (G (w6 (sP M X i j h + ent M i h * X (h * 8 + j)))) = sq (pP M X c i j (h + 1)) := by
  rw [sq_set _ _ _ (by omega)]
  apply sq_ext
  intro x hx
  unfold pP
  by_cases e : x = i * 8 + j
  · rw [if_pos e, if_neg (by omega), if_pos (by omega), if_neg (by omega), if_pos (by omega)]; rfl
  · rw [if_neg e]
    by_cases h1 : x / 8 < i
    · rw [if_pos h1, if_pos h1]
    · rw [if_neg h1, if_neg h1]
      by_cases h2 : x / 8 = i
      · rw [if_pos h2, if_pos h2]
        by_cases h3 : x % 8 < j
        · rw [if_pos h3, if_pos h3]
        · rw [if_neg h3, if_neg h3, if_neg (by omega), if_neg (by omega)]
      · rw [if_neg h2, if_neg h2]
theorem pP_dg {X : Nat → Int} {c : Int} {i : Nat} (hi : i < M.length) (h8 : M.length ≤ 8) : (sq (pP M X c i M.length 0)).set (i * 8 + i) (G (w6 (w6 (sP M X i i M.length) + c))) = sq (pP M X c (i + 1) 0 0) := by
  rw [sq_set _ _ _ (by omega)]
  apply sq_ext
  intro x hx
  unfold pP fuC
  by_cases e : x = i * 8 + i
  · rw [if_pos e, if_pos (show x / 8 < i + 1 by omega), if_pos (show x % 8 < M.length by omega), if_pos (show x / 8 = x % 8 by omega), show x / 8 = i by omega, show x % 8 = i by omega]
  · rw [if_neg e]
    by_cases h1 : x / 8 < i
    · rw [if_pos h1, if_pos (show x / 8 < i + 1 by omega)]
    · rw [if_neg h1]
      by_cases h2 : x / 8 = i
      · rw [if_pos h2, if_pos (show x / 8 < i + 1 by omega)]
        by_cases h3 : x % 8 < M.length
        · rw [if_pos h3, if_pos h3, if_neg (by omega), h2]
        · rw [if_neg h3, if_neg h3]
          split
          · exact w6_0
          · rfl
      · rw [if_neg h2, if_neg (show ¬ x / 8 < i + 1 by omega)]
        split
        · rw [if_neg (by omega)]
          split
          · exact w6_0.symm
          · rfl
        · rfl
theorem pP_dgat {X : Nat → Int} {c : Int} {i : Nat} (hi : i < M.length) (h8 : M.length ≤ 8) : pP M X c i M.length 0 (i * 8 + i) = w6 (sP M X i i M.length) := by
  unfold pP
  rw [if_neg (by omega), if_pos (by omega), if_pos (by omega), show (i * 8 + i) % 8 = i by omega]
theorem pP_all (X : Nat → Int) (c : Int) : pP M X c M.length 0 0 = nxX M X c := by
  funext x; unfold pP nxX
  by_cases h1 : x / 8 < M.length
  · rw [if_pos h1, if_pos h1]
  · rw [if_neg h1, if_neg h1]
    split
    · rw [if_neg (by omega)]
      split
      · exact w6_0
      · rfl
    · rfl
/-- The trace. -/
def tI (M : List (List Int)) (X : Nat → Int) (i h : Nat) : Int := sm (fun h => ent M i h * X (h * 8 + i)) h
def tJ (M : List (List Int)) (X : Nat → Int) (i : Nat) : Int := sm (fun i => tI M X i M.length) i
def cf (k : Nat) (T : Int) : Int := w6 ((w6 (0 - w6 T)).tdiv k)
/-- The square and the numbers after k steps. -/
def pQ (M : List (List Int)) : Nat → (Nat → Int) × (Nat → Int)
  | 0 => (fun _ => 0, fun t => if t = M.length then 1 else 0)
  | k + 1 => (nxX M (pQ M k).1 ((pQ M k).2 (M.length - k)), fun t => if t = M.length - (k + 1) then cf (k + 1) (tJ M (nxX M (pQ M k).1 ((pQ M k).2 (M.length - k))) M.length) else (pQ M k).2 t)
def pyL (M : List (List Int)) : List Int := lf (pQ M M.length).2 (M.length + 1)

/-! ### The walk -/
theorem n33_19 (J : CallF) {H : Heap} {bm bo bx n i j k l : Nat} {cm cx c0 c1 : List AV} {a b S : Int} (gm : H.get bm = .cells 0 65 cm) (gx : H.get bx = .cells 0 64 cx) (lm : cm.length = 65) (lx : cx.length = 64) (ea : cm[1 + i * 8 + l]? = some (G a)) (eb : cx[l * 8 + j]? = some (G b)) (e0 : c0[i * 8 + j]? = some (G (w6 S))) (l0 : c0.length = 64) (es : c0.set (i * 8 + j) (G (w6 (S + a * b))) = c1) (hi : i < n) (hj : j < n) (hl : l < n) (h8 : n ≤ 8) :
    Tr tbl J c33_o19 (fun s h => h = H.plus [.cells 0 64 c0] ∧ s.get [true, false] = .ptr bm 0 65 ∧ s.get [true, true] = .slice bo 0 (n + 1) (n + 1) ∧ s.get [false, false, false] = .ptr bx 0 64 ∧ s.get [true, false, false] = G k ∧ s.get [false, true, false] = .ptr H.size 0 64 ∧ s.get [true, true, false] = G i ∧ s.get [false, false, true] = G j ∧ s.get [true, false, true] = G l ∧ s.get [true, true, true, false, false] = G n ∧ s.get [false, false, false, true, false] = G i ∧ s.get [false, false, true, true, false] = G n ∧ s.get [true, false, true, true, false] = G j ∧ s.get [true, false, false, false, true] = G n ∧ s.get [false, true, false, false, true] = G l) .normal (fun s h => h = H.plus [.cells 0 64 c1] ∧ s.get [true, false] = .ptr bm 0 65 ∧ s.get [true, true] = .slice bo 0 (n + 1) (n + 1) ∧ s.get [false, false, false] = .ptr bx 0 64 ∧ s.get [true, false, false] = G k ∧ s.get [false, true, false] = .ptr H.size 0 64 ∧ s.get [true, true, false] = G i ∧ s.get [false, false, true] = G j ∧ s.get [true, true, true, false, false] = G n ∧ s.get [false, false, false, true, false] = G i ∧ s.get [false, false, true, true, false] = G n ∧ s.get [true, false, true, true, false] = G j ∧ s.get [true, false, false, false, true] = G n ∧ s.get [false, true, false, false, true] = G l) := by
  have gm' := fun c => plus_keep [c] gm (by simp)
  have gx' := fun c => plus_keep [c] gx (by simp)
  have ea' := getI ea
  have eb' := getI eb
  have e0' := getI e0
  have hw : IntKind.i64.wrap (IntKind.i64.wrap S + IntKind.i64.wrap (a * b)) = IntKind.i64.wrap (S + a * b) := w6_add S (a * b)
  refine Tr.w fun s1 H1 hp R kR => ?_
  obtain ⟨rfl, q⟩ := hp
  refine W.chunk ?_
  simp (disch := first | omega | exact getEq rfl | exact getO0 | exact Nat.le_of_ble_eq_true rfl) [c33_o19, app_growP, app_noneP, plus_N, plus_at0, put_plus0, put_plus1, upd_N, upd_size, q, gm', gx', lm, lx, l0, ea, ea', eb, eb', e0, e0', hw, es, -evDraw_c, evDraw_0]
  exact kR _ _ (by simp [T.get, q])
theorem c33_l0_ok (J : CallF) (hm : isMat M = true) {H : Heap} {bm bo bx i j k : Nat} {X : Nat → Int} {c : Int} (gm : H.get bm = .cells 0 65 (matC M)) (gx : H.get bx = .cells 0 64 (sq X)) (hi : i < M.length) (hj : j < M.length) :
    Tr tbl J c33_l0 (fun s h => h = H.plus [.cells 0 64 (sq (pP M X c i j 0))] ∧ s.get [true, false] = .ptr bm 0 65 ∧ s.get [true, true] = .slice bo 0 (M.length + 1) (M.length + 1) ∧ s.get [false, false, false] = .ptr bx 0 64 ∧ s.get [true, false, false] = G k ∧ s.get [false, true, false] = .ptr H.size 0 64 ∧ s.get [true, true, false] = G i ∧ s.get [false, false, true] = G j ∧ s.get [true, true, true, false, false] = G M.length ∧ s.get [false, false, false, true, false] = G i ∧ s.get [false, false, true, true, false] = G M.length ∧ s.get [true, false, true, true, false] = G j ∧ s.get [true, false, false, false, true] = G M.length ∧ s.get [false, true, false, false, true] = G ((0 : Nat) : Int)) (.exit 6) (fun s h => h = H.plus [.cells 0 64 (sq (pP M X c i j M.length))] ∧ s.get [true, false] = .ptr bm 0 65 ∧ s.get [true, true] = .slice bo 0 (M.length + 1) (M.length + 1) ∧ s.get [false, false, false] = .ptr bx 0 64 ∧ s.get [true, false, false] = G k ∧ s.get [false, true, false] = .ptr H.size 0 64 ∧ s.get [true, true, false] = G i ∧ s.get [true, true, true, false, false] = G M.length ∧ s.get [false, false, false, true, false] = G i ∧ s.get [false, false, true, true, false] = G M.length ∧ s.get [true, false, true, true, false] = G j) := by
  have h8 := isMat_n hm
  refine Tr.rounds (P := fun l => (fun s h => h = H.plus [.cells 0 64 (sq (pP M X c i j l))] ∧ s.get [true, false] = .ptr bm 0 65 ∧ s.get [true, true] = .slice bo 0 (M.length + 1) (M.length + 1) ∧ s.get [false, false, false] = .ptr bx 0 64 ∧ s.get [true, false, false] = G k ∧ s.get [false, true, false] = .ptr H.size 0 64 ∧ s.get [true, true, false] = G i ∧ s.get [false, false, true] = G j ∧ s.get [true, true, true, false, false] = G M.length ∧ s.get [false, false, false, true, false] = G i ∧ s.get [false, false, true, true, false] = G M.length ∧ s.get [true, false, true, true, false] = G j ∧ s.get [true, false, false, false, true] = G M.length ∧ s.get [false, true, false, false, true] = G l)) (M := M.length) (fun l hl => ?_) ?_ (by simp) 0 (by omega)
  · refine Tr.w fun s1 H1 hp R kR => W.trim ?_
    obtain ⟨rfl, q⟩ := hp
    have t := n33_19 (bo := bo) (k := k) J gm gx (matC_len M) (sq_len X) (matC_at M (i := i) (j := l) (by omega) (by omega)) (sq_get X (i := l * 8 + j) (by omega) rfl) (sq_get (pP M X c i j l) (by omega) (pP_at (by omega))) (sq_len _) (pP_set (by omega) (by omega)) hi hj hl h8.2
    clear gm gx
    generalize sq (pP M X c i j (l + 1)) = c1 at *
    generalize sq (pP M X c i j l) = c0 at *
    generalize M.length = n at *
    refine W.seq (W.chunk ?_)
    simp (disch := first | omega | exact getEq rfl | exact getO0 | exact Nat.le_of_ble_eq_true rfl) [c33_o17, app_growP, app_noneP, plus_N, plus_at0, put_plus0, put_plus1, upd_N, upd_size, q]
    refine W.seq (W.chunk ?_)
    simp (disch := first | omega | exact getEq rfl | exact getO0 | exact Nat.le_of_ble_eq_true rfl) [app_growP, app_noneP, plus_N, plus_at0, put_plus0, put_plus1, upd_N, upd_size, q]
    refine W.seq (W.block ?_)
    refine W.seq (W.chunk ?_)
    simp (disch := first | omega | exact getEq rfl | exact getO0 | exact Nat.le_of_ble_eq_true rfl) [c33_o18, app_growP, app_noneP, plus_N, plus_at0, put_plus0, put_plus1, upd_N, upd_size, q]
    refine W.use (t) (by simp (disch := first | omega | exact getEq rfl | exact getO0 | exact Nat.le_of_ble_eq_true rfl) [app_growP, app_noneP, plus_N, plus_at0, put_plus0, put_plus1, upd_N, upd_size, q]) fun s1 H1 hp => ?_
    obtain ⟨rfl, q⟩ := hp
    try simp only [thenW_n, thenW_e, thenW_r, blkW_n, blkW_e, blkW_r, if_true]
    refine W.chunk ?_
    simp (disch := first | omega | exact getEq rfl | exact getO0 | exact Nat.le_of_ble_eq_true rfl) [c33_o20, app_growP, app_noneP, plus_N, plus_at0, put_plus0, put_plus1, upd_N, upd_size, q]
    exact kR _ _ (by simp [T.get, q])
  · refine Tr.w fun s1 H1 hp R kR => W.trim ?_
    obtain ⟨rfl, q⟩ := hp
    clear gm gx
    generalize M.length = n at *
    refine W.seq (W.chunk ?_)
    simp (disch := first | omega | exact getEq rfl | exact getO0 | exact Nat.le_of_ble_eq_true rfl) [c33_o17, app_growP, app_noneP, plus_N, plus_at0, put_plus0, put_plus1, upd_N, upd_size, q]
    refine W.seq (W.chunk ?_)
    simp (disch := first | omega | exact getEq rfl | exact getO0 | exact Nat.le_of_ble_eq_true rfl) [app_growP, app_noneP, plus_N, plus_at0, put_plus0, put_plus1, upd_N, upd_size, q]
    exact kR _ _ (by simp [T.get, q])
theorem c33_l1_ok (J : CallF) (hm : isMat M = true) {H : Heap} {bm bo bx i k : Nat} {X : Nat → Int} {c : Int} (gm : H.get bm = .cells 0 65 (matC M)) (gx : H.get bx = .cells 0 64 (sq X)) (hi : i < M.length) :
    Tr tbl J c33_l1 (fun s h => h = H.plus [.cells 0 64 (sq (pP M X c i 0 0))] ∧ s.get [true, false] = .ptr bm 0 65 ∧ s.get [true, true] = .slice bo 0 (M.length + 1) (M.length + 1) ∧ s.get [false, false, false] = .ptr bx 0 64 ∧ s.get [true, false, false] = G k ∧ s.get [false, true, false] = .ptr H.size 0 64 ∧ s.get [true, true, false] = G i ∧ s.get [true, true, true, false, false] = G M.length ∧ s.get [false, false, false, true, false] = G i ∧ s.get [false, false, true, true, false] = G M.length ∧ s.get [true, false, true, true, false] = G ((0 : Nat) : Int)) (.exit 4) (fun s h => h = H.plus [.cells 0 64 (sq (pP M X c i M.length 0))] ∧ s.get [true, false] = .ptr bm 0 65 ∧ s.get [true, true] = .slice bo 0 (M.length + 1) (M.length + 1) ∧ s.get [false, false, false] = .ptr bx 0 64 ∧ s.get [true, false, false] = G k ∧ s.get [false, true, false] = .ptr H.size 0 64 ∧ s.get [true, true, false] = G i ∧ s.get [true, true, true, false, false] = G M.length ∧ s.get [false, false, false, true, false] = G i) := by
  have h8 := isMat_n hm
  have e0 : (matC M)[0]? = some (G M.length) := rfl
  have e0' := getI e0
  have lm := matC_len M
  refine Tr.rounds (P := fun j => (fun s h => h = H.plus [.cells 0 64 (sq (pP M X c i j 0))] ∧ s.get [true, false] = .ptr bm 0 65 ∧ s.get [true, true] = .slice bo 0 (M.length + 1) (M.length + 1) ∧ s.get [false, false, false] = .ptr bx 0 64 ∧ s.get [true, false, false] = G k ∧ s.get [false, true, false] = .ptr H.size 0 64 ∧ s.get [true, true, false] = G i ∧ s.get [true, true, true, false, false] = G M.length ∧ s.get [false, false, false, true, false] = G i ∧ s.get [false, false, true, true, false] = G M.length ∧ s.get [true, false, true, true, false] = G j)) (M := M.length) (fun j hj => ?_) ?_ (by simp) 0 (by omega)
  · refine Tr.w fun s1 H1 hp R kR => W.trim ?_
    obtain ⟨rfl, q⟩ := hp
    have l0 := c33_l0_ok (bo := bo) (k := k) (c := c) J hm gm gx hi hj
    rw [pP_h] at l0
    have gm' := fun c => plus_keep [c] gm (by simp)
    clear gx
    generalize sq (pP M X c i (j + 1) 0) = c1 at *
    generalize sq (pP M X c i j 0) = c0 at *
    generalize matC M = cm at *
    generalize M.length = n at *
    refine W.seq (W.chunk ?_)
    simp (disch := first | omega | exact getEq rfl | exact getO0 | exact Nat.le_of_ble_eq_true rfl) [c33_o14, app_growP, app_noneP, plus_N, plus_at0, put_plus0, put_plus1, upd_N, upd_size, q]
    refine W.seq (W.chunk ?_)
    simp (disch := first | omega | exact getEq rfl | exact getO0 | exact Nat.le_of_ble_eq_true rfl) [app_growP, app_noneP, plus_N, plus_at0, put_plus0, put_plus1, upd_N, upd_size, q]
    refine W.seq (W.block ?_)
    refine W.seq (W.chunk ?_)
    simp (disch := first | omega | exact getEq rfl | exact getO0 | exact Nat.le_of_ble_eq_true rfl) [c33_o15, app_growP, app_noneP, plus_N, plus_at0, put_plus0, put_plus1, upd_N, upd_size, q]
    refine W.seq (W.chunk ?_)
    simp (disch := first | omega | exact getEq rfl | exact getO0 | exact Nat.le_of_ble_eq_true rfl) [c33_o16, app_growP, app_noneP, plus_N, plus_at0, put_plus0, put_plus1, upd_N, upd_size, q, gm', e0, e0', lm]
    refine W.block ?_
    refine W.use (l0) (by simp (disch := first | omega | exact getEq rfl | exact getO0 | exact Nat.le_of_ble_eq_true rfl) [app_growP, app_noneP, plus_N, plus_at0, put_plus0, put_plus1, upd_N, upd_size, q]) fun s1 H1 hp => ?_
    obtain ⟨rfl, q⟩ := hp
    try simp only [thenW_n, thenW_e, thenW_r, blkW_n, blkW_e, blkW_r, if_true]
    refine W.chunk ?_
    simp (disch := first | omega | exact getEq rfl | exact getO0 | exact Nat.le_of_ble_eq_true rfl) [c33_o21, app_growP, app_noneP, plus_N, plus_at0, put_plus0, put_plus1, upd_N, upd_size, q]
    exact kR _ _ (by simp [T.get, q])
  · refine Tr.w fun s1 H1 hp R kR => W.trim ?_
    obtain ⟨rfl, q⟩ := hp
    clear gm gx
    generalize M.length = n at *
    refine W.seq (W.chunk ?_)
    simp (disch := first | omega | exact getEq rfl | exact getO0 | exact Nat.le_of_ble_eq_true rfl) [c33_o14, app_growP, app_noneP, plus_N, plus_at0, put_plus0, put_plus1, upd_N, upd_size, q]
    refine W.seq (W.chunk ?_)
    simp (disch := first | omega | exact getEq rfl | exact getO0 | exact Nat.le_of_ble_eq_true rfl) [app_growP, app_noneP, plus_N, plus_at0, put_plus0, put_plus1, upd_N, upd_size, q]
    exact kR _ _ (by simp [T.get, q])
theorem c33_l2_ok (J : CallF) (hm : isMat M = true) {H : Heap} {bm bo bx k : Nat} {X C : Nat → Int} (gm : H.get bm = .cells 0 65 (matC M)) (gx : H.get bx = .cells 0 64 (sq X)) (go : H.get bo = .cells 1 (M.length + 1) (gs (lf C (M.length + 1)))) (hk : k < M.length) :
    Tr tbl J c33_l2 (fun s h => h = H.plus [.cells 0 64 (sq (pP M X (C (M.length - k)) 0 0 0))] ∧ s.get [true, false] = .ptr bm 0 65 ∧ s.get [true, true] = .slice bo 0 (M.length + 1) (M.length + 1) ∧ s.get [false, false, false] = .ptr bx 0 64 ∧ s.get [true, false, false] = G ((k + 1 : Nat) : Int) ∧ s.get [false, true, false] = .ptr H.size 0 64 ∧ s.get [true, true, true, false, false] = G M.length ∧ s.get [false, false, false, true, false] = G ((0 : Nat) : Int)) (.exit 2) (fun s h => h = H.plus [.cells 0 64 (sq (pP M X (C (M.length - k)) M.length 0 0))] ∧ s.get [true, false] = .ptr bm 0 65 ∧ s.get [true, true] = .slice bo 0 (M.length + 1) (M.length + 1) ∧ s.get [false, false, false] = .ptr bx 0 64 ∧ s.get [true, false, false] = G ((k + 1 : Nat) : Int) ∧ s.get [false, true, false] = .ptr H.size 0 64) := by
  have h8 := isMat_n hm
  have e0 : (matC M)[0]? = some (G M.length) := rfl
  have e0' := getI e0
  have lm := matC_len M
  refine Tr.rounds (P := fun i => (fun s h => h = H.plus [.cells 0 64 (sq (pP M X (C (M.length - k)) i 0 0))] ∧ s.get [true, false] = .ptr bm 0 65 ∧ s.get [true, true] = .slice bo 0 (M.length + 1) (M.length + 1) ∧ s.get [false, false, false] = .ptr bx 0 64 ∧ s.get [true, false, false] = G ((k + 1 : Nat) : Int) ∧ s.get [false, true, false] = .ptr H.size 0 64 ∧ s.get [true, true, true, false, false] = G M.length ∧ s.get [false, false, false, true, false] = G i)) (M := M.length) (fun i hi => ?_) ?_ (by simp) 0 (by omega)
  · refine Tr.w fun s1 H1 hp R kR => W.trim ?_
    obtain ⟨rfl, q⟩ := hp
    have l1 := c33_l1_ok (bo := bo) (k := k + 1) (c := C (M.length - k)) J hm gm gx hi
    have ed := sq_get (pP M X (C (M.length - k)) i M.length 0) (i := i * 8 + i) (by omega) (pP_dgat hi h8.2)
    have es := pP_dg (M := M) (X := X) (c := C (M.length - k)) hi h8.2
    have ec : (gs (lf C (M.length + 1)))[M.length - k]? = some (G (C (M.length - k))) := gl_at C (by omega)
    have lc := gl_len C (M.length + 1)
    have l2 := sq_len (pP M X (C (M.length - k)) i M.length 0)
    have ed' := getI ed
    have ec' := getI ec
    have gm' := fun c => plus_keep [c] gm (by simp)
    have go' := fun c => plus_keep [c] go (by simp)
    have hix : ((M.length : Int) - (k : Int)).toNat = M.length - k := by omega
    have hsub : (M.length : Int) - ((k : Int) + 1) + 1 = (M.length : Int) - k := by omega
    clear gx gm go
    generalize C (M.length - k) = c at *
    generalize hz : w6 (sP M X i i M.length) = z at *
    generalize sq (pP M X c (i + 1) 0 0) = c2 at *
    generalize sq (pP M X c i M.length 0) = c1 at *
    generalize sq (pP M X c i 0 0) = c0 at *
    generalize gs (lf C (M.length + 1)) = co at *
    generalize matC M = cm at *
    generalize M.length = n at *
    refine W.seq (W.chunk ?_)
    simp (disch := first | omega | exact getEq rfl | exact getO0 | exact Nat.le_of_ble_eq_true rfl) [c33_o11, app_growP, app_noneP, plus_N, plus_at0, put_plus0, put_plus1, upd_N, upd_size, q]
    refine W.seq (W.chunk ?_)
    simp (disch := first | omega | exact getEq rfl | exact getO0 | exact Nat.le_of_ble_eq_true rfl) [app_growP, app_noneP, plus_N, plus_at0, put_plus0, put_plus1, upd_N, upd_size, q]
    refine W.seq (W.block ?_)
    refine W.seq (W.chunk ?_)
    simp (disch := first | omega | exact getEq rfl | exact getO0 | exact Nat.le_of_ble_eq_true rfl) [c33_o12, app_growP, app_noneP, plus_N, plus_at0, put_plus0, put_plus1, upd_N, upd_size, q]
    refine W.assoc ?_
    refine W.seq (W.chunk ?_)
    simp (disch := first | omega | exact getEq rfl | exact getO0 | exact Nat.le_of_ble_eq_true rfl) [c33_o13, app_growP, app_noneP, plus_N, plus_at0, put_plus0, put_plus1, upd_N, upd_size, q, gm', e0, e0', lm]
    refine W.seq (W.block ?_)
    refine W.use (l1) (by simp (disch := first | omega | exact getEq rfl | exact getO0 | exact Nat.le_of_ble_eq_true rfl) [app_growP, app_noneP, plus_N, plus_at0, put_plus0, put_plus1, upd_N, upd_size, q]) fun s1 H1 hp => ?_
    obtain ⟨rfl, q⟩ := hp
    try simp only [thenW_n, thenW_e, thenW_r, blkW_n, blkW_e, blkW_r, if_true]
    refine W.chunk ?_
    simp (disch := first | omega | exact getEq rfl | exact getO0 | exact Nat.le_of_ble_eq_true rfl) [c33_o22, app_growP, app_noneP, plus_N, plus_at0, put_plus0, put_plus1, upd_N, upd_size, q, gm', go', e0, e0', lm, ed, ed', ec, ec', lc, l2, hix, hsub, es, -evDraw_c, evDraw_0]
    refine W.chunk ?_
    simp (disch := first | omega | exact getEq rfl | exact getO0 | exact Nat.le_of_ble_eq_true rfl) [c33_o23, app_growP, app_noneP, plus_N, plus_at0, put_plus0, put_plus1, upd_N, upd_size, q]
    exact kR _ _ (by simp [T.get, q])
  · refine Tr.w fun s1 H1 hp R kR => W.trim ?_
    obtain ⟨rfl, q⟩ := hp
    clear gm gx go
    generalize M.length = n at *
    refine W.seq (W.chunk ?_)
    simp (disch := first | omega | exact getEq rfl | exact getO0 | exact Nat.le_of_ble_eq_true rfl) [c33_o11, app_growP, app_noneP, plus_N, plus_at0, put_plus0, put_plus1, upd_N, upd_size, q]
    refine W.seq (W.chunk ?_)
    simp (disch := first | omega | exact getEq rfl | exact getO0 | exact Nat.le_of_ble_eq_true rfl) [app_growP, app_noneP, plus_N, plus_at0, put_plus0, put_plus1, upd_N, upd_size, q]
    exact kR _ _ (by simp [T.get, q])
theorem c33_l3_ok (J : CallF) (hm : isMat M = true) {H : Heap} {bm bo bx i k : Nat} {X : Nat → Int} {S : Int} (gm : H.get bm = .cells 0 65 (matC M)) (gx : H.get bx = .cells 0 64 (sq X)) (hi : i < M.length) :
    Tr tbl J c33_l3 (fun s h => h = H ∧ s.get [true, false] = .ptr bm 0 65 ∧ s.get [true, true] = .slice bo 0 (M.length + 1) (M.length + 1) ∧ s.get [false, false, false] = .ptr bx 0 64 ∧ s.get [true, false, false] = G k ∧ s.get [false, true, true] = G (w6 (S + tI M X i 0)) ∧ s.get [true, true, true] = G i ∧ s.get [false, true, true, true, true, false] = G M.length ∧ s.get [true, true, true, true, true, false] = G i ∧ s.get [true, true, false, false, false, true] = G M.length ∧ s.get [false, false, true, false, false, true] = G ((0 : Nat) : Int)) (.exit 10) (fun s h => h = H ∧ s.get [true, false] = .ptr bm 0 65 ∧ s.get [true, true] = .slice bo 0 (M.length + 1) (M.length + 1) ∧ s.get [false, false, false] = .ptr bx 0 64 ∧ s.get [true, false, false] = G k ∧ s.get [false, true, true] = G (w6 (S + tI M X i M.length)) ∧ s.get [false, true, true, true, true, false] = G M.length ∧ s.get [true, true, true, true, true, false] = G i) := by
  have h8 := isMat_n hm
  refine Tr.rounds (P := fun l => (fun s h => h = H ∧ s.get [true, false] = .ptr bm 0 65 ∧ s.get [true, true] = .slice bo 0 (M.length + 1) (M.length + 1) ∧ s.get [false, false, false] = .ptr bx 0 64 ∧ s.get [true, false, false] = G k ∧ s.get [false, true, true] = G (w6 (S + tI M X i l)) ∧ s.get [true, true, true] = G i ∧ s.get [false, true, true, true, true, false] = G M.length ∧ s.get [true, true, true, true, true, false] = G i ∧ s.get [true, true, false, false, false, true] = G M.length ∧ s.get [false, false, true, false, false, true] = G l)) (M := M.length) (fun l hl => ?_) ?_ (by simp) 0 (by omega)
  · refine Tr.w fun s1 H1 hp R kR => W.trim ?_
    obtain ⟨rfl, q⟩ := hp
    have ea := matC_at M (i := i) (j := l) (by omega) (by omega)
    have eb := sq_get X (i := l * 8 + i) (by omega) rfl
    have ea' := getI ea
    have eb' := getI eb
    have lm := matC_len M
    have lx := sq_len X
    have te : tI M X i (l + 1) = tI M X i l + ent M i l * X (l * 8 + i) := rfl
    have hw : IntKind.i64.wrap (IntKind.i64.wrap (S + tI M X i l) + IntKind.i64.wrap (ent M i l * X (l * 8 + i))) = IntKind.i64.wrap (S + tI M X i (l + 1)) := by
      rw [te, ← Int.add_assoc]; exact w6_add _ _
    generalize tI M X i (l + 1) = t1 at *
    generalize tI M X i l = t0 at *
    generalize ent M i l = a at *
    generalize X (l * 8 + i) = b at *
    generalize sq X = cx at *
    generalize matC M = cm at *
    generalize M.length = n at *
    refine W.seq (W.chunk ?_)
    simp (disch := first | omega | exact getEq rfl | exact getO0 | exact Nat.le_of_ble_eq_true rfl) [c33_o30, app_growP, app_noneP, plus_N, plus_at0, put_plus0, put_plus1, upd_N, upd_size, q]
    refine W.seq (W.chunk ?_)
    simp (disch := first | omega | exact getEq rfl | exact getO0 | exact Nat.le_of_ble_eq_true rfl) [app_growP, app_noneP, plus_N, plus_at0, put_plus0, put_plus1, upd_N, upd_size, q]
    refine W.seq (W.block ?_)
    refine W.seq (W.chunk ?_)
    simp (disch := first | omega | exact getEq rfl | exact getO0 | exact Nat.le_of_ble_eq_true rfl) [c33_o31, app_growP, app_noneP, plus_N, plus_at0, put_plus0, put_plus1, upd_N, upd_size, q]
    refine W.chunk ?_
    simp (disch := first | omega | exact getEq rfl | exact getO0 | exact Nat.le_of_ble_eq_true rfl) [c33_o32, app_growP, app_noneP, plus_N, plus_at0, put_plus0, put_plus1, upd_N, upd_size, q, gm, gx, ea, ea', eb, eb', lm, lx, hw, -evDraw_c, evDraw_0]
    refine W.chunk ?_
    simp (disch := first | omega | exact getEq rfl | exact getO0 | exact Nat.le_of_ble_eq_true rfl) [c33_o33, app_growP, app_noneP, plus_N, plus_at0, put_plus0, put_plus1, upd_N, upd_size, q]
    exact kR _ _ (by simp [T.get, q])
  · refine Tr.w fun s1 H1 hp R kR => W.trim ?_
    obtain ⟨rfl, q⟩ := hp
    clear gm gx
    generalize M.length = n at *
    refine W.seq (W.chunk ?_)
    simp (disch := first | omega | exact getEq rfl | exact getO0 | exact Nat.le_of_ble_eq_true rfl) [c33_o30, app_growP, app_noneP, plus_N, plus_at0, put_plus0, put_plus1, upd_N, upd_size, q]
    refine W.seq (W.chunk ?_)
    simp (disch := first | omega | exact getEq rfl | exact getO0 | exact Nat.le_of_ble_eq_true rfl) [app_growP, app_noneP, plus_N, plus_at0, put_plus0, put_plus1, upd_N, upd_size, q]
    exact kR _ _ (by simp [T.get, q])
theorem c33_l4_ok (J : CallF) (hm : isMat M = true) {H : Heap} {bm bo bx k : Nat} {X : Nat → Int} (gm : H.get bm = .cells 0 65 (matC M)) (gx : H.get bx = .cells 0 64 (sq X)) :
    Tr tbl J c33_l4 (fun s h => h = H ∧ s.get [true, false] = .ptr bm 0 65 ∧ s.get [true, true] = .slice bo 0 (M.length + 1) (M.length + 1) ∧ s.get [false, false, false] = .ptr bx 0 64 ∧ s.get [true, false, false] = G k ∧ s.get [false, true, true] = G (w6 (tJ M X 0)) ∧ s.get [false, true, true, true, true, false] = G M.length ∧ s.get [true, true, true, true, true, false] = G ((0 : Nat) : Int)) (.exit 8) (fun s h => h = H ∧ s.get [true, false] = .ptr bm 0 65 ∧ s.get [true, true] = .slice bo 0 (M.length + 1) (M.length + 1) ∧ s.get [false, false, false] = .ptr bx 0 64 ∧ s.get [true, false, false] = G k ∧ s.get [false, true, true] = G (w6 (tJ M X M.length))) := by
  have h8 := isMat_n hm
  have e0 : (matC M)[0]? = some (G M.length) := rfl
  have e0' := getI e0
  have lm := matC_len M
  refine Tr.rounds (P := fun i => (fun s h => h = H ∧ s.get [true, false] = .ptr bm 0 65 ∧ s.get [true, true] = .slice bo 0 (M.length + 1) (M.length + 1) ∧ s.get [false, false, false] = .ptr bx 0 64 ∧ s.get [true, false, false] = G k ∧ s.get [false, true, true] = G (w6 (tJ M X i)) ∧ s.get [false, true, true, true, true, false] = G M.length ∧ s.get [true, true, true, true, true, false] = G i)) (M := M.length) (fun i hi => ?_) ?_ (by simp) 0 (by omega)
  · refine Tr.w fun s1 H1 hp R kR => W.trim ?_
    obtain ⟨rfl, q⟩ := hp
    have l3 := c33_l3_ok (bo := bo) (k := k) (S := tJ M X i) J hm gm gx hi
    rw [show tJ M X i + tI M X i M.length = tJ M X (i + 1) from rfl, show tJ M X i + tI M X i 0 = tJ M X i from Int.add_zero _] at l3
    clear gx
    generalize tJ M X (i + 1) = t1 at *
    generalize tJ M X i = t0 at *
    generalize matC M = cm at *
    generalize M.length = n at *
    refine W.seq (W.chunk ?_)
    simp (disch := first | omega | exact getEq rfl | exact getO0 | exact Nat.le_of_ble_eq_true rfl) [c33_o27, app_growP, app_noneP, plus_N, plus_at0, put_plus0, put_plus1, upd_N, upd_size, q]
    refine W.seq (W.chunk ?_)
    simp (disch := first | omega | exact getEq rfl | exact getO0 | exact Nat.le_of_ble_eq_true rfl) [app_growP, app_noneP, plus_N, plus_at0, put_plus0, put_plus1, upd_N, upd_size, q]
    refine W.seq (W.block ?_)
    refine W.seq (W.chunk ?_)
    simp (disch := first | omega | exact getEq rfl | exact getO0 | exact Nat.le_of_ble_eq_true rfl) [c33_o28, app_growP, app_noneP, plus_N, plus_at0, put_plus0, put_plus1, upd_N, upd_size, q]
    refine W.seq (W.chunk ?_)
    simp (disch := first | omega | exact getEq rfl | exact getO0 | exact Nat.le_of_ble_eq_true rfl) [c33_o29, app_growP, app_noneP, plus_N, plus_at0, put_plus0, put_plus1, upd_N, upd_size, q, gm, e0, e0', lm]
    refine W.block ?_
    refine W.use (l3) (by simp (disch := first | omega | exact getEq rfl | exact getO0 | exact Nat.le_of_ble_eq_true rfl) [app_growP, app_noneP, plus_N, plus_at0, put_plus0, put_plus1, upd_N, upd_size, q]) fun s1 H1 hp => ?_
    obtain ⟨rfl, q⟩ := hp
    try simp only [thenW_n, thenW_e, thenW_r, blkW_n, blkW_e, blkW_r, if_true]
    refine W.chunk ?_
    simp (disch := first | omega | exact getEq rfl | exact getO0 | exact Nat.le_of_ble_eq_true rfl) [c33_o34, app_growP, app_noneP, plus_N, plus_at0, put_plus0, put_plus1, upd_N, upd_size, q]
    exact kR _ _ (by simp [T.get, q])
  · refine Tr.w fun s1 H1 hp R kR => W.trim ?_
    obtain ⟨rfl, q⟩ := hp
    clear gm gx
    generalize M.length = n at *
    refine W.seq (W.chunk ?_)
    simp (disch := first | omega | exact getEq rfl | exact getO0 | exact Nat.le_of_ble_eq_true rfl) [c33_o27, app_growP, app_noneP, plus_N, plus_at0, put_plus0, put_plus1, upd_N, upd_size, q]
    refine W.seq (W.chunk ?_)
    simp (disch := first | omega | exact getEq rfl | exact getO0 | exact Nat.le_of_ble_eq_true rfl) [app_growP, app_noneP, plus_N, plus_at0, put_plus0, put_plus1, upd_N, upd_size, q]
    exact kR _ _ (by simp [T.get, q])
end

end Go.Proofs.Ytjeemgaoonapgaa.Ev
