/-
  What next, Next and the reference's Next answer: the matrix applied to a list. No condition.
-/
import Derived.Test.YtjeemgaoonapgaaRMat2
set_option linter.unusedVariables false
set_option linter.unusedSimpArgs false
namespace Go.Proofs.Ytjeemgaoonapgaa.Ev
open Go Go.AEv

attribute [local simp] evFunc initS evOps_c evTrim_c evSkip_c evExit_c evRet_c evSeq_c evCond_c evBlock_c evDraw_c runOps_n runOps_c exec_n exec_g pure1_c act AOpd.ev T.get T.set T.put evBin evUn forceT_eq forceV_eq forceL_eq evRess evRes one keep runFP_n runFP_c app_none AV.flats AV.flat

/-! ### Lists of reckoned numbers -/
def lf (f : Nat → Int) (n : Nat) : List Int := (List.range n).map f
theorem lf_len (f : Nat → Int) (n : Nat) : (lf f n).length = n := by simp [lf]
theorem lf_at (f : Nat → Int) {n i : Nat} (h : i < n) : (lf f n)[i]? = some (f i) := by simp [lf, h]
theorem lf_getD (f : Nat → Int) {n i : Nat} (h : i < n) : (lf f n).getD i 0 = f i := by rw [List.getD_eq_getElem?_getD, lf_at f h]; rfl
theorem lf_ext (f g : Nat → Int) (n : Nat) (h : ∀ x, x < n → f x = g x) : lf f n = lf g n := by
  unfold lf; apply List.map_congr_left; intro x hx; rw [h x (by simpa using hx)]
theorem lf_succ (f : Nat → Int) (n : Nat) : lf f (n + 1) = lf f n ++ [f n] := by simp [lf, List.range_succ]
theorem gl_len (f : Nat → Int) (n : Nat) : (gs (lf f n)).length = n := by simp [lf_len]
theorem gl_at (f : Nat → Int) {n i : Nat} (h : i < n) : (gs (lf f n))[i]? = some (G (f i)) := by rw [List.getElem?_map, lf_at f h]; rfl
theorem gl_set (f : Nat → Int) (n i : Nat) (b : Int) (h : i < n) : (gs (lf f n)).set i (G b) = gs (lf (fun x => if x = i then b else f x) n) := by
  apply List.ext_getElem?
  intro x
  by_cases hx : x < n
  · rw [gl_at _ hx]
    by_cases e : x = i
    · subst e; rw [List.getElem?_set_self (by rw [gl_len]; exact h), if_pos rfl]
    · rw [List.getElem?_set_ne (fun e' => e e'.symm), gl_at _ hx, if_neg e]
  · rw [List.getElem?_eq_none (by rw [List.length_set, gl_len]; omega), List.getElem?_eq_none (by rw [gl_len]; omega)]
theorem gl_rep (n : Nat) : List.replicate n (AV.int .i64 0) = gs (lf (fun _ => 0) n) := by
  apply List.ext_getElem?
  intro x
  by_cases hx : x < n
  · rw [gl_at _ hx, List.getElem?_replicate, if_pos hx]
  · rw [List.getElem?_eq_none (by simp; omega), List.getElem?_eq_none (by rw [gl_len]; omega)]
theorem lf_of (L : List Int) : L = lf (fun i => L.getD i 0) L.length := by
  apply List.ext_getElem?
  intro i
  by_cases hi : i < L.length
  · rw [lf_at _ hi, List.getD_eq_getElem?_getD, List.getElem?_eq_getElem hi]; rfl
  · rw [List.getElem?_eq_none (by omega), List.getElem?_eq_none (by rw [lf_len]; omega)]

theorem allIn_at {lo hi : Int} {A : List Int} (h : allIn lo hi A = true) {i : Nat} (hi' : i < A.length) : lo ≤ A.getD i 0 ∧ A.getD i 0 ≤ hi := by
  unfold allIn at h
  rw [List.all_eq_true] at h
  have := h A[i] (List.getElem_mem _)
  rw [List.getD_eq_getElem?_getD, List.getElem?_eq_getElem hi']
  simpa using this
theorem ent_bd {M : List (List Int)} (hm : isMat M = true) (i j : Nat) : 0 ≤ ent M i j ∧ ent M i j ≤ 9 := by
  unfold ent
  by_cases hi : i < M.length
  · obtain ⟨h1, h2⟩ := isMat_row hm hi
    by_cases hj : j < (M.getD i []).length
    · exact allIn_at h2 hj
    · rw [List.getD_eq_getElem?_getD (l := M.getD i []), List.getElem?_eq_none (by omega)]; exact ⟨Int.le_refl _, by decide⟩
  · rw [List.getD_eq_getElem?_getD (l := M), List.getElem?_eq_none (by omega)]; simp
theorem matC_at (M : List (List Int)) {i j : Nat} (hi : i < 8) (hj : j < 8) : (matC M)[1 + i * 8 + j]? = some (G (ent M i j)) := by
  rw [show 1 + i * 8 + j = (i * 8 + j) + 1 by omega]
  show (sq _)[i * 8 + j]? = _
  rw [sq_at _ (by omega), show (i * 8 + j) / 8 = i by omega, show (i * 8 + j) % 8 = j by omega]
theorem matC_len (M : List (List Int)) : (matC M).length = 65 := by simp [matC, sq_len]
theorem matC_inj {M M' : List (List Int)} (h : isMat M = true) (h' : isMat M' = true) (e : matC M = matC M') : M = M' := by
  have e0 := congrArg List.head? e
  simp only [matC, List.head?_cons, Option.some.injEq, AV.int.injEq, true_and, Int.natCast_inj] at e0
  have n1 := isMat_n h
  apply List.ext_getElem?
  intro i
  by_cases hi : i < M.length
  · obtain ⟨r1, _⟩ := isMat_row h hi
    obtain ⟨r2, _⟩ := isMat_row h' (by omega : i < M'.length)
    have key : M.getD i [] = M'.getD i [] := by
      rw [lf_of (M.getD i []), lf_of (M'.getD i []), r1, r2, ← e0]
      apply lf_ext
      intro j hj
      have x1 := matC_at M (show i < 8 by omega) (show j < 8 by omega)
      rw [e, matC_at M' (show i < 8 by omega) (show j < 8 by omega)] at x1
      simp only [Option.some.injEq, AV.int.injEq, true_and] at x1
      exact x1.symm
    rw [List.getD_eq_getElem?_getD, List.getD_eq_getElem?_getD, List.getElem?_eq_getElem hi, List.getElem?_eq_getElem (by omega : i < M'.length)] at key
    rw [List.getElem?_eq_getElem hi, List.getElem?_eq_getElem (by omega : i < M'.length)]
    exact congrArg some key
  · rw [List.getElem?_eq_none (by omega), List.getElem?_eq_none (by omega)]
theorem act_fa (call : CallF) (h0 : Heap) (s : T) (h : Heap) (off : Nat) (x : AOpd) : act call h0 s h (.fieldAddr off x) = pure1 (match x.ev s with | .ptr b o v => some (.ptr b (o + off) v) | _ => none) := rfl
theorem act_load (call : CallF) (h0 : Heap) (s : T) (h : Heap) (k : Option Nat) (x : AOpd) : act call h0 s h (.load k x) = match x.ev s with
    | .ptr b o v => (loadA h k (.ptr b o v)).map fun r => (r, { reads := [(b, o, k.getD 1)] })
    | _ => none := rfl

/-! ### The sums -/
def nxv (M : List (List Int)) (X : List Int) (i : Nat) : Nat → Int
  | 0 => 0
  | j + 1 => nxv M X i j + ent M i j * X.getD j 0
def nxtL (M : List (List Int)) (X : List Int) : List Int := lf (fun i => nxv M X i M.length) M.length
theorem nxt_term {M : List (List Int)} {X : List Int} (hm : isMat M = true) (hx : allIn 0 100000000 X = true) (i : Nat) {j : Nat} (hj : j < X.length) : 0 ≤ ent M i j * X.getD j 0 ∧ ent M i j * X.getD j 0 ≤ 900000000 := by
  have a := ent_bd hm i j
  have b := allIn_at hx hj
  exact ⟨Int.mul_nonneg a.1 b.1, Int.mul_le_mul a.2 b.2 b.1 (by decide)⟩
theorem nxv_bd {M : List (List Int)} {X : List Int} (hm : isMat M = true) (hx : allIn 0 100000000 X = true) (i : Nat) : ∀ j, j ≤ X.length → 0 ≤ nxv M X i j ∧ nxv M X i j ≤ 900000000 * j
  | 0, _ => ⟨Int.le_refl _, by simp [nxv]⟩
  | j + 1, h => by
    have a := nxv_bd hm hx i j (by omega)
    have b := nxt_term hm hx i (show j < X.length by omega)
    show 0 ≤ nxv M X i j + _ ∧ nxv M X i j + _ ≤ _
    omega
/-- What next has written. -/
def oF (M : List (List Int)) (X : List Int) (i j x : Nat) : Int := if x < i then nxv M X x M.length else if x = i then nxv M X i j else 0

/-! ### next -/
section
variable {M : List (List Int)} {X : List Int} {n : Nat}
abbrev L58a : List Path := [[false], [true], [false, true], [true, true], [false, true, true], [true, true, true], [false, true, false, false], [true, true, false, false], [false, false, true, false]]
abbrev L58b : List Path := [[false], [true], [false, true], [false, true, true], [true, true, true]]
theorem n58_8 (J : CallF) (h : Heap) {i j b v : Nat} (hi : i < n) (hj : j < n) (h8 : n ≤ 8) {C O cx : List AV} {a x o : Int} (g : h.get b = .cells 1 v cx) (e1 : C[1 + i * 8 + j]? = some (G a)) (e2 : cx[j]? = some (G x)) (e3 : O[i]? = some (G o)) (hO : O.length = n) (hC : C.length = 65) (b1 : 0 ≤ a * x ∧ a * x ≤ 900000000) (b2 : 0 ≤ o ∧ o ≤ 9000000000) :
    Tr tbl J (.trim L58a c58_b0) (fun s h' => s.get [false] = .slice b 0 n v ∧ s.get [true] = .ptr h.size 0 65 ∧ s.get [false, true] = .slice (h.size + 1) 0 n n ∧ s.get [true, true] = G i ∧ s.get [false, true, true] = G n ∧ s.get [true, true, true] = G i ∧ s.get [false, true, false, false] = .slice b 0 n v ∧ s.get [true, true, false, false] = G n ∧ s.get [false, false, true, false] = G j ∧ h' = ⟨h.get, h.size, [.cells 0 65 C, .cells 1 n O]⟩) .normal (fun s h' => s.get [false] = .slice b 0 n v ∧ s.get [true] = .ptr h.size 0 65 ∧ s.get [false, true] = .slice (h.size + 1) 0 n n ∧ s.get [true, true] = G i ∧ s.get [false, true, true] = G n ∧ s.get [true, true, true] = G i ∧ s.get [false, true, false, false] = .slice b 0 n v ∧ s.get [true, true, false, false] = G n ∧ s.get [false, false, true, false] = G ((j + 1 : Nat) : Int) ∧ h' = ⟨h.get, h.size, [.cells 0 65 C, .cells 1 n (O.set i (G (o + a * x)))]⟩) := by
  have e1' : ∀ h : 1 + i * 8 + j < C.length, C[1 + i * 8 + j] = G a := fun h => by rw [List.getElem?_eq_getElem h] at e1; exact Option.some.inj e1
  have e2' : ∀ h : j < cx.length, cx[j] = G x := fun h => by rw [List.getElem?_eq_getElem h] at e2; exact Option.some.inj e2
  have e3' : ∀ h : i < O.length, O[i] = G o := fun h => by rw [List.getElem?_eq_getElem h] at e3; exact Option.some.inj e3
  have lt := get_lt g (by simp)
  have ta : Tr tbl J ((.trim L58a (.seq c58_o6 (.cond (.s [true, false, true, false]) .skip (.exit 2))))) (fun s h' => s.get [false] = .slice b 0 n v ∧ s.get [true] = .ptr h.size 0 65 ∧ s.get [false, true] = .slice (h.size + 1) 0 n n ∧ s.get [true, true] = G i ∧ s.get [false, true, true] = G n ∧ s.get [true, true, true] = G i ∧ s.get [false, true, false, false] = .slice b 0 n v ∧ s.get [true, true, false, false] = G n ∧ s.get [false, false, true, false] = G j ∧ h' = ⟨h.get, h.size, [.cells 0 65 C, .cells 1 n O]⟩) .normal (fun s h' => s.get [false] = .slice b 0 n v ∧ s.get [true] = .ptr h.size 0 65 ∧ s.get [false, true] = .slice (h.size + 1) 0 n n ∧ s.get [true, true] = G i ∧ s.get [false, true, true] = G n ∧ s.get [true, true, true] = G i ∧ s.get [false, true, false, false] = .slice b 0 n v ∧ s.get [true, true, false, false] = G n ∧ s.get [false, false, true, false] = G j ∧ h' = ⟨h.get, h.size, [.cells 0 65 C, .cells 1 n O]⟩) := Tr.region fun s h hp => by
    obtain ⟨g0, g1, g2, g3, g4, g5, g6, g7, g8, rfl⟩ := hp
    simp (disch := first | omega | exact getEq rfl | exact getO0 | exact Nat.le_of_ble_eq_true rfl) [c58_o6, came_some, goI, List.getElem?_cons_zero, List.getElem?_cons_succ, kn, keep, frameOf, size_mk, get_mk_lt, get_mk_ge, Eff.app, Heap.setOwn, putAt, AV.cells, fillA, loadA, takeA, mk, Eff.isAll, Eff.isNone, Eff.commutes, Eff.spares, okPair, apart, eqAgg, fits, LK.fits, allEq, aveq, eqk, mmA, beqT, wrapI, idxI, tdivI, tmodI, decT, decF, ibT, ibF, inT, inF, evScope_c, if_pos, if_neg, g0, g1, g2, g3, g4, g5, g6, g7, g8]
  have tb : Tr tbl J (c58_o7) (fun s h' => s.get [false] = .slice b 0 n v ∧ s.get [true] = .ptr h.size 0 65 ∧ s.get [false, true] = .slice (h.size + 1) 0 n n ∧ s.get [true, true] = G i ∧ s.get [false, true, true] = G n ∧ s.get [true, true, true] = G i ∧ s.get [false, true, false, false] = .slice b 0 n v ∧ s.get [true, true, false, false] = G n ∧ s.get [false, false, true, false] = G j ∧ h' = ⟨h.get, h.size, [.cells 0 65 C, .cells 1 n O]⟩) .normal (fun s h' => s.get [false] = .slice b 0 n v ∧ s.get [true] = .ptr h.size 0 65 ∧ s.get [false, true] = .slice (h.size + 1) 0 n n ∧ s.get [true, true] = G i ∧ s.get [false, false, false] = G j ∧ s.get [true, false, false] = G x ∧ s.get [false, true, true] = G n ∧ s.get [true, true, true] = G i ∧ s.get [false, true, false, false] = .slice b 0 n v ∧ s.get [true, true, false, false] = G n ∧ s.get [false, false, true, false] = G j ∧ h' = ⟨h.get, h.size, [.cells 0 65 C, .cells 1 n O]⟩) := Tr.region fun s h hp => by
    obtain ⟨g0, g1, g2, g3, g4, g5, g6, g7, g8, rfl⟩ := hp
    simp (disch := first | omega | exact getEq rfl | exact getO0 | exact Nat.le_of_ble_eq_true rfl) [c58_o7, came_some, goI, List.getElem?_cons_zero, List.getElem?_cons_succ, kn, keep, frameOf, size_mk, get_mk_lt, get_mk_ge, Eff.app, Heap.setOwn, putAt, AV.cells, fillA, loadA, takeA, mk, Eff.isAll, Eff.isNone, Eff.commutes, Eff.spares, okPair, apart, eqAgg, fits, LK.fits, allEq, aveq, eqk, mmA, beqT, wrapI, idxI, tdivI, tmodI, decT, decF, ibT, ibF, inT, inF, evScope_c, if_pos, if_neg, g0, g1, g2, g3, g4, g5, g6, g7, g8, g, e2, e2']
  have tc : Tr tbl J (c58_o8) (fun s h' => s.get [false] = .slice b 0 n v ∧ s.get [true] = .ptr h.size 0 65 ∧ s.get [false, true] = .slice (h.size + 1) 0 n n ∧ s.get [true, true] = G i ∧ s.get [false, false, false] = G j ∧ s.get [true, false, false] = G x ∧ s.get [false, true, true] = G n ∧ s.get [true, true, true] = G i ∧ s.get [false, true, false, false] = .slice b 0 n v ∧ s.get [true, true, false, false] = G n ∧ s.get [false, false, true, false] = G j ∧ h' = ⟨h.get, h.size, [.cells 0 65 C, .cells 1 n O]⟩) .normal (fun s h' => s.get [false] = .slice b 0 n v ∧ s.get [true] = .ptr h.size 0 65 ∧ s.get [false, true] = .slice (h.size + 1) 0 n n ∧ s.get [true, true] = G i ∧ s.get [false, true, true] = G n ∧ s.get [true, true, true] = G i ∧ s.get [false, true, false, false] = .slice b 0 n v ∧ s.get [true, true, false, false] = G n ∧ s.get [false, false, true, false] = G j ∧ h' = ⟨h.get, h.size, [.cells 0 65 C, .cells 1 n (O.set i (G (o + a * x)))]⟩) := Tr.region fun s h hp => by
    obtain ⟨g0, g1, g2, g3, g4, g5, g6, g7, g8, g9, g10, rfl⟩ := hp
    simp (disch := first | omega | exact getEq rfl | exact getO0 | exact Nat.le_of_ble_eq_true rfl) [-evDraw_c, c58_o8, came_some, goI, List.getElem?_cons_zero, List.getElem?_cons_succ, kn, keep, frameOf, size_mk, get_mk_lt, get_mk_ge, Eff.app, Heap.setOwn, putAt, AV.cells, fillA, loadA, takeA, mk, Eff.isAll, Eff.isNone, Eff.commutes, Eff.spares, okPair, apart, eqAgg, fits, LK.fits, allEq, aveq, eqk, mmA, beqT, wrapI, idxI, tdivI, tmodI, decT, decF, ibT, ibF, inT, inF, evScope_c, if_pos, if_neg, g0, g1, g2, g3, g4, g5, g6, g7, g8, g9, g10, evDraw_0, e1, e1', e3, e3', hO, hC]
  have td : Tr tbl J (c58_o9) (fun s h' => s.get [false] = .slice b 0 n v ∧ s.get [true] = .ptr h.size 0 65 ∧ s.get [false, true] = .slice (h.size + 1) 0 n n ∧ s.get [true, true] = G i ∧ s.get [false, true, true] = G n ∧ s.get [true, true, true] = G i ∧ s.get [false, true, false, false] = .slice b 0 n v ∧ s.get [true, true, false, false] = G n ∧ s.get [false, false, true, false] = G j ∧ h' = ⟨h.get, h.size, [.cells 0 65 C, .cells 1 n (O.set i (G (o + a * x)))]⟩) .normal (fun s h' => s.get [false] = .slice b 0 n v ∧ s.get [true] = .ptr h.size 0 65 ∧ s.get [false, true] = .slice (h.size + 1) 0 n n ∧ s.get [true, true] = G i ∧ s.get [false, true, true] = G n ∧ s.get [true, true, true] = G i ∧ s.get [false, true, false, false] = .slice b 0 n v ∧ s.get [true, true, false, false] = G n ∧ s.get [false, false, true, false] = G ((j + 1 : Nat) : Int) ∧ h' = ⟨h.get, h.size, [.cells 0 65 C, .cells 1 n (O.set i (G (o + a * x)))]⟩) := Tr.region fun s h hp => by
    obtain ⟨g0, g1, g2, g3, g4, g5, g6, g7, g8, rfl⟩ := hp
    simp (disch := first | omega | exact getEq rfl | exact getO0 | exact Nat.le_of_ble_eq_true rfl) [c58_o9, came_some, goI, List.getElem?_cons_zero, List.getElem?_cons_succ, kn, keep, frameOf, size_mk, get_mk_lt, get_mk_ge, Eff.app, Heap.setOwn, putAt, AV.cells, fillA, loadA, takeA, mk, Eff.isAll, Eff.isNone, Eff.commutes, Eff.spares, okPair, apart, eqAgg, fits, LK.fits, allEq, aveq, eqk, mmA, beqT, wrapI, idxI, tdivI, tmodI, decT, decF, ibT, ibF, inT, inF, evScope_c, if_pos, if_neg, g0, g1, g2, g3, g4, g5, g6, g7, g8]
  exact Tr.trim_assoc (Tr.trim_seq ta (Tr.seq (Tr.block_out (Tr.seq tb tc) (by simp)) td))
theorem n58_j (J : CallF) (h : Heap) {i b v : Nat} (hm : isMat M = true) (hx : allIn 0 100000000 X = true) (hl : X.length = M.length) (hn : M.length = n) (hi : i < n) (g : h.get b = .cells 1 v (gs X)) :
    Tr tbl J (.seq c58_o5 (.block 2 c58_l0)) (fun s h' => s.get [false] = .slice b 0 n v ∧ s.get [true] = .ptr h.size 0 65 ∧ s.get [false, true] = .slice (h.size + 1) 0 n n ∧ s.get [true, true] = G i ∧ s.get [false, true, true] = G n ∧ s.get [true, true, true] = G i ∧ h' = ⟨h.get, h.size, [.cells 0 65 (matC M), .cells 1 n (gs (lf (oF M X i 0) n))]⟩) .normal (fun s h' => s.get [false] = .slice b 0 n v ∧ s.get [true] = .ptr h.size 0 65 ∧ s.get [false, true] = .slice (h.size + 1) 0 n n ∧ s.get [false, true, true] = G n ∧ s.get [true, true, true] = G i ∧ h' = ⟨h.get, h.size, [.cells 0 65 (matC M), .cells 1 n (gs (lf (oF M X (i + 1) 0) n))]⟩) := by
  have h8 := isMat_n hm
  have en : gs (lf (oF M X i n) n) = gs (lf (oF M X (i + 1) 0) n) := by
    congr 1
    apply lf_ext
    intro x hx'
    unfold oF
    by_cases h1 : x < i
    · rw [if_pos h1, if_pos (by omega)]
    · rw [if_neg h1]
      by_cases h2 : x = i
      · rw [if_pos h2, if_pos (by omega), h2, hn]
      · rw [if_neg h2, if_neg (by omega)]
        split <;> rfl
  rw [← en]
  have t0 : Tr tbl J (c58_o5) (fun s h' => s.get [false] = .slice b 0 n v ∧ s.get [true] = .ptr h.size 0 65 ∧ s.get [false, true] = .slice (h.size + 1) 0 n n ∧ s.get [true, true] = G i ∧ s.get [false, true, true] = G n ∧ s.get [true, true, true] = G i ∧ h' = ⟨h.get, h.size, [.cells 0 65 (matC M), .cells 1 n (gs (lf (oF M X i 0) n))]⟩) .normal (fun s h' => s.get [false] = .slice b 0 n v ∧ s.get [true] = .ptr h.size 0 65 ∧ s.get [false, true] = .slice (h.size + 1) 0 n n ∧ s.get [true, true] = G i ∧ s.get [false, true, true] = G n ∧ s.get [true, true, true] = G i ∧ s.get [false, true, false, false] = .slice b 0 n v ∧ s.get [true, true, false, false] = G n ∧ s.get [false, false, true, false] = G ((0 : Nat) : Int) ∧ h' = ⟨h.get, h.size, [.cells 0 65 (matC M), .cells 1 n (gs (lf (oF M X i 0) n))]⟩) := Tr.region fun s h hp => by
    obtain ⟨g0, g1, g2, g3, g4, g5, rfl⟩ := hp
    generalize gs (lf (oF M X i 0) n) = O at *
    generalize matC M = C at *
    simp (disch := first | omega | exact getEq rfl | exact getO0 | exact Nat.le_of_ble_eq_true rfl) [c58_o5, came_some, goI, List.getElem?_cons_zero, List.getElem?_cons_succ, kn, keep, frameOf, size_mk, get_mk_lt, get_mk_ge, Eff.app, Heap.setOwn, putAt, AV.cells, fillA, loadA, takeA, mk, Eff.isAll, Eff.isNone, Eff.commutes, Eff.spares, okPair, apart, eqAgg, fits, LK.fits, allEq, aveq, eqk, mmA, beqT, wrapI, idxI, tdivI, tmodI, decT, decF, ibT, ibF, inT, inF, evScope_c, if_pos, if_neg, g0, g1, g2, g3, g4, g5]
  have t1 : Tr tbl J ((.trim L58a c58_b0)) (fun s h' => s.get [false] = .slice b 0 n v ∧ s.get [true] = .ptr h.size 0 65 ∧ s.get [false, true] = .slice (h.size + 1) 0 n n ∧ s.get [true, true] = G i ∧ s.get [false, true, true] = G n ∧ s.get [true, true, true] = G i ∧ s.get [false, true, false, false] = .slice b 0 n v ∧ s.get [true, true, false, false] = G n ∧ s.get [false, false, true, false] = G n ∧ h' = ⟨h.get, h.size, [.cells 0 65 (matC M), .cells 1 n (gs (lf (oF M X i n) n))]⟩) (.exit 2) (fun s h' => s.get [false] = .slice b 0 n v ∧ s.get [true] = .ptr h.size 0 65 ∧ s.get [false, true] = .slice (h.size + 1) 0 n n ∧ s.get [false, true, true] = G n ∧ s.get [true, true, true] = G i ∧ h' = ⟨h.get, h.size, [.cells 0 65 (matC M), .cells 1 n (gs (lf (oF M X i n) n))]⟩) := Tr.region fun s h hp => by
    obtain ⟨g0, g1, g2, g3, g4, g5, g6, g7, g8, rfl⟩ := hp
    generalize gs (lf (oF M X i n) n) = O at *
    generalize matC M = C at *
    simp (disch := first | omega | exact getEq rfl | exact getO0 | exact Nat.le_of_ble_eq_true rfl) [c58_b0, c58_o6, came_some, goI, List.getElem?_cons_zero, List.getElem?_cons_succ, kn, keep, frameOf, size_mk, get_mk_lt, get_mk_ge, Eff.app, Heap.setOwn, putAt, AV.cells, fillA, loadA, takeA, mk, Eff.isAll, Eff.isNone, Eff.commutes, Eff.spares, okPair, apart, eqAgg, fits, LK.fits, allEq, aveq, eqk, mmA, beqT, wrapI, idxI, tdivI, tmodI, decT, decF, ibT, ibF, inT, inF, evScope_c, if_pos, if_neg, g0, g1, g2, g3, g4, g5, g6, g7, g8]
  refine Tr.seq t0 (Tr.block (Tr.rounds (P := fun j => (fun s h' => s.get [false] = .slice b 0 n v ∧ s.get [true] = .ptr h.size 0 65 ∧ s.get [false, true] = .slice (h.size + 1) 0 n n ∧ s.get [true, true] = G i ∧ s.get [false, true, true] = G n ∧ s.get [true, true, true] = G i ∧ s.get [false, true, false, false] = .slice b 0 n v ∧ s.get [true, true, false, false] = G n ∧ s.get [false, false, true, false] = G j ∧ h' = ⟨h.get, h.size, [.cells 0 65 (matC M), .cells 1 n (gs (lf (oF M X i j) n))]⟩)) (M := n) (fun j hj => ?_) t1 (by simp) 0 (by omega)))
  have hb := nxv_bd hm hx i j (by omega)
  have eo : oF M X i j i = nxv M X i j := by unfold oF; rw [if_neg (by omega), if_pos rfl]
  have t := n58_8 J h hi hj (by omega) (C := matC M) (O := gs (lf (oF M X i j) n)) (a := ent M i j) (x := X.getD j 0) (o := nxv M X i j) g (matC_at M (by omega) (by omega)) (by
      rw [lf_of X]; rw [gl_at _ (by omega)]; rw [lf_getD _ (by omega)]) (by rw [gl_at _ hi, eo]) (gl_len _ _) (matC_len M) (nxt_term hm hx i (by omega)) (by omega)
  have es : (gs (lf (oF M X i j) n)).set i (G (nxv M X i j + ent M i j * X.getD j 0)) = gs (lf (oF M X i (j + 1)) n) := by
    rw [gl_set _ _ _ _ hi]
    congr 1
    apply lf_ext
    intro x hx'
    unfold oF
    by_cases e : x = i
    · rw [if_pos e, if_neg (by omega), if_pos e]; rfl
    · rw [if_neg e]
      by_cases e2 : x < i
      · rw [if_pos e2, if_pos e2]
      · rw [if_neg e2, if_neg e, if_neg e2, if_neg e]
  rw [es] at t
  exact t
theorem c58_ok (J : CallF) (hJ : ∀ a h, J 58 a h = none) (h : Heap) {x : AV} (hm : isMat M = true) (hr : LR h x X) (hl : X.length = M.length) (hx : allIn 0 100000000 X = true) :
    CallsTo tbl J 58 [.agg (matC M), x] h (.slice (h.size + 1) 0 M.length M.length, [.cells 0 65 (matC M), .cells 1 M.length (gs (nxtL M X))], false) := by
  have h8 := isMat_n hm
  obtain ⟨n, hn⟩ : ∃ n, M.length = n := ⟨_, rfl⟩
  rcases hr.cases with ⟨rfl, e⟩ | ⟨rfl, e⟩ | ⟨b, v, rfl, g⟩
  · rw [e] at hl; simp at hl; omega
  · rw [e] at hl; simp at hl; omega
  have lt := get_lt g (by simp)
  rw [hl, hn]
  refine Tr.fnh (cf := c58) (e := .ret) (s := T.set (T.set .leaf [] (.agg (matC M))) [false] (.slice b 0 n v)) (by decide) rfl (hJ _ _) rfl rfl rfl (by simp) ?_
  refine Tr.post (Q := (fun s h' => s.get [true, false] = .slice (h.size + 1) 0 n n ∧ h' = ⟨h.get, h.size, [.cells 0 65 (matC M), .cells 1 n (gs (nxtL M X))]⟩)) (fun s h' q => by
    obtain ⟨q1, rfl⟩ := q
    simp [c58, q1]) ?_
  have en : gs (nxtL M X) = gs (lf (oF M X n 0) n) := by
    unfold nxtL
    rw [hn]
    congr 1
    apply lf_ext
    intro x hx'
    unfold oF
    rw [if_pos hx', hn]
  rw [en]
  have e0 : gs (lf (oF M X 0 0) n) = List.replicate n (AV.int .i64 0) := by
    rw [gl_rep]
    congr 1
    apply lf_ext
    intro x hx'
    unfold oF
    rw [if_neg (by omega)]
    split <;> rfl
  have t00 : Tr tbl J (c58_o0) (fun s h' => s = T.set (T.set .leaf [] (.agg (matC M))) [false] (.slice b 0 n v) ∧ h' = frameOf h) .normal (fun s h' => s.get [false] = .slice b 0 n v ∧ s.get [true] = .ptr h.size 0 65 ∧ h' = ⟨h.get, h.size, [.cells 0 65 (matC M)]⟩) := Tr.region fun s h hp => by
    obtain ⟨rfl, rfl⟩ := hp
    have lC := matC_len M
    generalize matC M = C at *
    simp (disch := first | omega | exact getEq rfl | exact getO0 | exact Nat.le_of_ble_eq_true rfl) [c58_o0, frameOf, came_some, goI, List.getElem?_cons_zero, List.getElem?_cons_succ, kn, keep, frameOf, size_mk, get_mk_lt, get_mk_ge, Eff.app, Heap.setOwn, putAt, AV.cells, fillA, loadA, takeA, mk, Eff.isAll, Eff.isNone, Eff.commutes, Eff.spares, okPair, apart, eqAgg, fits, LK.fits, allEq, aveq, eqk, mmA, beqT, wrapI, idxI, tdivI, tmodI, decT, decF, ibT, ibF, inT, inF, evScope_c, if_pos, if_neg, lC]
  have t0 : Tr tbl J (c58_o1) (fun s h' => s.get [false] = .slice b 0 n v ∧ s.get [true] = .ptr h.size 0 65 ∧ h' = ⟨h.get, h.size, [.cells 0 65 (matC M)]⟩) .normal (fun s h' => s.get [false] = .slice b 0 n v ∧ s.get [true] = .ptr h.size 0 65 ∧ s.get [false, true] = .slice (h.size + 1) 0 n n ∧ h' = ⟨h.get, h.size, [.cells 0 65 (matC M), .cells 1 n (gs (lf (oF M X 0 0) n))]⟩) := Tr.region fun s h hp => by
    obtain ⟨g0, g1, rfl⟩ := hp
    rw [e0]
    have lC := matC_len M
    have hC : (matC M)[0]? = some (G n) := by rw [← hn]; rfl
    have hC' : ∀ h : 0 < (matC M).length, (matC M)[0] = G n := fun h => by rw [List.getElem?_eq_getElem h] at hC; exact Option.some.inj hC
    have m1 := fun h => mkSl_ok h 8 (AV.int .i64 0) n n rfl (by omega)
    generalize matC M = C at *
    simp (disch := first | omega | exact getEq rfl | exact getO0 | exact Nat.le_of_ble_eq_true rfl) [-act, -List.reduceReplicate, c58_o1, came_some, goI, List.getElem?_cons_zero, List.getElem?_cons_succ, kn, keep, frameOf, size_mk, get_mk_lt, get_mk_ge, Eff.app, Heap.setOwn, putAt, AV.cells, fillA, loadA, takeA, mk, Eff.isAll, Eff.isNone, Eff.commutes, Eff.spares, okPair, apart, eqAgg, fits, LK.fits, allEq, aveq, eqk, mmA, beqT, wrapI, idxI, tdivI, tmodI, decT, decF, ibT, ibF, inT, inF, evScope_c, if_pos, if_neg, g0, g1, act_mkSl, act_move, act_fa, act_load, m1, lC, hC, hC']
  have t2 : Tr tbl J (c58_o2) (fun s h' => s.get [false] = .slice b 0 n v ∧ s.get [true] = .ptr h.size 0 65 ∧ s.get [false, true] = .slice (h.size + 1) 0 n n ∧ h' = ⟨h.get, h.size, [.cells 0 65 (matC M), .cells 1 n (gs (lf (oF M X 0 0) n))]⟩) .normal (fun s h' => s.get [false] = .slice b 0 n v ∧ s.get [true] = .ptr h.size 0 65 ∧ s.get [false, true] = .slice (h.size + 1) 0 n n ∧ s.get [false, true, true] = G n ∧ s.get [true, true, true] = G ((0 : Nat) : Int) ∧ h' = ⟨h.get, h.size, [.cells 0 65 (matC M), .cells 1 n (gs (lf (oF M X 0 0) n))]⟩) := Tr.region fun s h hp => by
    obtain ⟨g0, g1, g2, rfl⟩ := hp
    generalize gs (lf (oF M X 0 0) n) = O at *
    generalize matC M = C at *
    simp (disch := first | omega | exact getEq rfl | exact getO0 | exact Nat.le_of_ble_eq_true rfl) [c58_o2, came_some, goI, List.getElem?_cons_zero, List.getElem?_cons_succ, kn, keep, frameOf, size_mk, get_mk_lt, get_mk_ge, Eff.app, Heap.setOwn, putAt, AV.cells, fillA, loadA, takeA, mk, Eff.isAll, Eff.isNone, Eff.commutes, Eff.spares, okPair, apart, eqAgg, fits, LK.fits, allEq, aveq, eqk, mmA, beqT, wrapI, idxI, tdivI, tmodI, decT, decF, ibT, ibF, inT, inF, evScope_c, if_pos, if_neg, g0, g1, g2]
  have t1 : Tr tbl J ((.trim L58b c58_b1)) (fun s h' => s.get [false] = .slice b 0 n v ∧ s.get [true] = .ptr h.size 0 65 ∧ s.get [false, true] = .slice (h.size + 1) 0 n n ∧ s.get [false, true, true] = G n ∧ s.get [true, true, true] = G n ∧ h' = ⟨h.get, h.size, [.cells 0 65 (matC M), .cells 1 n (gs (lf (oF M X n 0) n))]⟩) (.exit 0) (fun s h' => s.get [false, true] = .slice (h.size + 1) 0 n n ∧ h' = ⟨h.get, h.size, [.cells 0 65 (matC M), .cells 1 n (gs (lf (oF M X n 0) n))]⟩) := Tr.region fun s h hp => by
    obtain ⟨g0, g1, g2, g3, g4, rfl⟩ := hp
    generalize gs (lf (oF M X n 0) n) = O at *
    generalize matC M = C at *
    simp (disch := first | omega | exact getEq rfl | exact getO0 | exact Nat.le_of_ble_eq_true rfl) [c58_b1, c58_o3, came_some, goI, List.getElem?_cons_zero, List.getElem?_cons_succ, kn, keep, frameOf, size_mk, get_mk_lt, get_mk_ge, Eff.app, Heap.setOwn, putAt, AV.cells, fillA, loadA, takeA, mk, Eff.isAll, Eff.isNone, Eff.commutes, Eff.spares, okPair, apart, eqAgg, fits, LK.fits, allEq, aveq, eqk, mmA, beqT, wrapI, idxI, tdivI, tmodI, decT, decF, ibT, ibF, inT, inF, evScope_c, if_pos, if_neg, g0, g1, g2, g3, g4]
  have t9 : Tr tbl J ((.seq c58_o11 .ret)) (fun s h' => s.get [false, true] = .slice (h.size + 1) 0 n n ∧ h' = ⟨h.get, h.size, [.cells 0 65 (matC M), .cells 1 n (gs (lf (oF M X n 0) n))]⟩) .ret (fun s h' => s.get [true, false] = .slice (h.size + 1) 0 n n ∧ h' = ⟨h.get, h.size, [.cells 0 65 (matC M), .cells 1 n (gs (lf (oF M X n 0) n))]⟩) := Tr.region fun s h hp => by
    obtain ⟨g0, rfl⟩ := hp
    generalize gs (lf (oF M X n 0) n) = O at *
    generalize matC M = C at *
    simp (disch := first | omega | exact getEq rfl | exact getO0 | exact Nat.le_of_ble_eq_true rfl) [c58_o11, came_some, goI, List.getElem?_cons_zero, List.getElem?_cons_succ, kn, keep, frameOf, size_mk, get_mk_lt, get_mk_ge, Eff.app, Heap.setOwn, putAt, AV.cells, fillA, loadA, takeA, mk, Eff.isAll, Eff.isNone, Eff.commutes, Eff.spares, okPair, apart, eqAgg, fits, LK.fits, allEq, aveq, eqk, mmA, beqT, wrapI, idxI, tdivI, tmodI, decT, decF, ibT, ibF, inT, inF, evScope_c, if_pos, if_neg, g0]
  refine Tr.seq t00 (Tr.seq t0 (Tr.seq (Tr.seq t2 (Tr.block (Tr.rounds (P := fun i => (fun s h' => s.get [false] = .slice b 0 n v ∧ s.get [true] = .ptr h.size 0 65 ∧ s.get [false, true] = .slice (h.size + 1) 0 n n ∧ s.get [false, true, true] = G n ∧ s.get [true, true, true] = G i ∧ h' = ⟨h.get, h.size, [.cells 0 65 (matC M), .cells 1 n (gs (lf (oF M X i 0) n))]⟩)) (M := n) (fun i hi => ?_) t1 (by simp) 0 (by omega)))) t9))
  have tj := n58_j J h hm hx hl hn hi g
  have ta : Tr tbl J ((.trim L58b (.seq c58_o3 (.cond (.s [false, false, false, false]) .skip (.exit 0))))) (fun s h' => s.get [false] = .slice b 0 n v ∧ s.get [true] = .ptr h.size 0 65 ∧ s.get [false, true] = .slice (h.size + 1) 0 n n ∧ s.get [false, true, true] = G n ∧ s.get [true, true, true] = G i ∧ h' = ⟨h.get, h.size, [.cells 0 65 (matC M), .cells 1 n (gs (lf (oF M X i 0) n))]⟩) .normal (fun s h' => s.get [false] = .slice b 0 n v ∧ s.get [true] = .ptr h.size 0 65 ∧ s.get [false, true] = .slice (h.size + 1) 0 n n ∧ s.get [false, true, true] = G n ∧ s.get [true, true, true] = G i ∧ h' = ⟨h.get, h.size, [.cells 0 65 (matC M), .cells 1 n (gs (lf (oF M X i 0) n))]⟩) := Tr.region fun s h hp => by
    obtain ⟨g0, g1, g2, g3, g4, rfl⟩ := hp
    generalize gs (lf (oF M X i 0) n) = O at *
    generalize matC M = C at *
    simp (disch := first | omega | exact getEq rfl | exact getO0 | exact Nat.le_of_ble_eq_true rfl) [c58_o3, came_some, goI, List.getElem?_cons_zero, List.getElem?_cons_succ, kn, keep, frameOf, size_mk, get_mk_lt, get_mk_ge, Eff.app, Heap.setOwn, putAt, AV.cells, fillA, loadA, takeA, mk, Eff.isAll, Eff.isNone, Eff.commutes, Eff.spares, okPair, apart, eqAgg, fits, LK.fits, allEq, aveq, eqk, mmA, beqT, wrapI, idxI, tdivI, tmodI, decT, decF, ibT, ibF, inT, inF, evScope_c, if_pos, if_neg, g0, g1, g2, g3, g4]
  have tb : Tr tbl J (c58_o4) (fun s h' => s.get [false] = .slice b 0 n v ∧ s.get [true] = .ptr h.size 0 65 ∧ s.get [false, true] = .slice (h.size + 1) 0 n n ∧ s.get [false, true, true] = G n ∧ s.get [true, true, true] = G i ∧ h' = ⟨h.get, h.size, [.cells 0 65 (matC M), .cells 1 n (gs (lf (oF M X i 0) n))]⟩) .normal (fun s h' => s.get [false] = .slice b 0 n v ∧ s.get [true] = .ptr h.size 0 65 ∧ s.get [false, true] = .slice (h.size + 1) 0 n n ∧ s.get [true, true] = G i ∧ s.get [false, true, true] = G n ∧ s.get [true, true, true] = G i ∧ h' = ⟨h.get, h.size, [.cells 0 65 (matC M), .cells 1 n (gs (lf (oF M X i 0) n))]⟩) := Tr.region fun s h hp => by
    obtain ⟨g0, g1, g2, g3, g4, rfl⟩ := hp
    generalize gs (lf (oF M X i 0) n) = O at *
    generalize matC M = C at *
    simp (disch := first | omega | exact getEq rfl | exact getO0 | exact Nat.le_of_ble_eq_true rfl) [c58_o4, came_some, goI, List.getElem?_cons_zero, List.getElem?_cons_succ, kn, keep, frameOf, size_mk, get_mk_lt, get_mk_ge, Eff.app, Heap.setOwn, putAt, AV.cells, fillA, loadA, takeA, mk, Eff.isAll, Eff.isNone, Eff.commutes, Eff.spares, okPair, apart, eqAgg, fits, LK.fits, allEq, aveq, eqk, mmA, beqT, wrapI, idxI, tdivI, tmodI, decT, decF, ibT, ibF, inT, inF, evScope_c, if_pos, if_neg, g0, g1, g2, g3, g4]
  have td : Tr tbl J (c58_o10) (fun s h' => s.get [false] = .slice b 0 n v ∧ s.get [true] = .ptr h.size 0 65 ∧ s.get [false, true] = .slice (h.size + 1) 0 n n ∧ s.get [false, true, true] = G n ∧ s.get [true, true, true] = G i ∧ h' = ⟨h.get, h.size, [.cells 0 65 (matC M), .cells 1 n (gs (lf (oF M X (i + 1) 0) n))]⟩) .normal (fun s h' => s.get [false] = .slice b 0 n v ∧ s.get [true] = .ptr h.size 0 65 ∧ s.get [false, true] = .slice (h.size + 1) 0 n n ∧ s.get [false, true, true] = G n ∧ s.get [true, true, true] = G ((i + 1 : Nat) : Int) ∧ h' = ⟨h.get, h.size, [.cells 0 65 (matC M), .cells 1 n (gs (lf (oF M X (i + 1) 0) n))]⟩) := Tr.region fun s h hp => by
    obtain ⟨g0, g1, g2, g3, g4, rfl⟩ := hp
    generalize gs (lf (oF M X (i + 1) 0) n) = O at *
    generalize matC M = C at *
    simp (disch := first | omega | exact getEq rfl | exact getO0 | exact Nat.le_of_ble_eq_true rfl) [c58_o10, came_some, goI, List.getElem?_cons_zero, List.getElem?_cons_succ, kn, keep, frameOf, size_mk, get_mk_lt, get_mk_ge, Eff.app, Heap.setOwn, putAt, AV.cells, fillA, loadA, takeA, mk, Eff.isAll, Eff.isNone, Eff.commutes, Eff.spares, okPair, apart, eqAgg, fits, LK.fits, allEq, aveq, eqk, mmA, beqT, wrapI, idxI, tdivI, tmodI, decT, decF, ibT, ibF, inT, inF, evScope_c, if_pos, if_neg, g0, g1, g2, g3, g4]
  exact Tr.trim_assoc (Tr.trim_seq ta (Tr.seq (Tr.block_out (Tr.seq tb tj) (by simp)) td))
end

end Go.Proofs.Ytjeemgaoonapgaa.Ev
