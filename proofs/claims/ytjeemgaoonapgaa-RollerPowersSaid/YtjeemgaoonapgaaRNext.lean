/-
  What next, Next and the reference's Next answer: the matrix applied to a list. No condition.
-/
import Derived.Test.YtjeemgaoonapgaaRMat2
set_option linter.unusedVariables false
set_option linter.unusedSimpArgs false
namespace Go.Proofs.Ytjeemgaoonapgaa.Ev
open Go Go.AEv

attribute [local simp] evFunc initS evOps_c evTrim_c evSkip_c evExit_c evRet_c evSeq_c evCond_c evBlock_c evDraw_c runOps_n runOps_c exec_n exec_g pure1_c act AOpd.ev T.get T.set T.put evBin evUn forceT_eq forceV_eq forceL_eq evRess evRes one keep runFP_n runFP_c app_none AV.flats AV.flat came_some List.getElem?_cons_zero List.getElem?_cons_succ beqT wrapI idxI tdivI tmodI decT decF ibT ibF inT inF evScope_c if_pos if_neg Cm_some thenW_n thenW_e thenW_r blkW_n blkW_e blkW_r goI kn putAt AV.cells fillA loadA takeA mk Eff.isAll Eff.isNone Eff.commutes Eff.spares okPair apart eqAgg fits LK.fits allEq aveq eqk mmA

/-! ### Lists of reckoned numbers -/
def lf (f : Nat → Int) (n : Nat) : List Int := (List.range n).map f
theorem lf_len (f : Nat → Int) (n : Nat) : (lf f n).length = n := by simp [lf]
theorem lf_at (f : Nat → Int) {n i : Nat} (h : i < n) : (lf f n)[i]? = some (f i) := by simp [lf, h]
theorem lf_getD (f : Nat → Int) {n i : Nat} (h : i < n) : (lf f n).getD i 0 = f i := by rw [List.getD_eq_getElem?_getD, lf_at f h]; rfl
theorem lf_ext (f g : Nat → Int) (n : Nat) (h : ∀ x, x < n → f x = g x) : lf f n = lf g n := by
  unfold lf; apply List.map_congr_left; intro x hx; rw [h x (by simpa using hx)]
theorem gl_len (f : Nat → Int) (n : Nat) : (gs (lf f n)).length = n := by simp [lf_len]
theorem gl_at (f : Nat → Int) {n i : Nat} (h : i < n) : (gs (lf f n))[i]? = some (G (f i)) := by rw [List.getElem?_map, lf_at f h]; rfl
theorem gl_set (f : Nat → Int) (n i : Nat) (b : Int) (h : i < n) : (gs (lf f n)).set i (G b) = gs (lf (fun x => if x = i then b else f x) n) := by
  apply List.ext_getElem?
  intro x
  by_cases hx : x < n
  · rw [gl_at _ hx]
    by_cases e : x = i
    · subst e; rw [List.getElem?_set_self (by rw [gl_len]; exact h), if_pos rfl]
    · rw [List.getElem?_set_ne (fun e' => e e'.symm), gl_at _ hx, if_neg e]
  · rw [List.getElem?_eq_none (by rw [List.length_set, gl_len]; omega), List.getElem?_eq_none (by rw [gl_len]; omega)]
theorem gl_rep (n : Nat) : List.replicate n (AV.int .i64 0) = gs (lf (fun _ => 0) n) := by
  apply List.ext_getElem?
  intro x
  by_cases hx : x < n
  · rw [gl_at _ hx, List.getElem?_replicate, if_pos hx]
  · rw [List.getElem?_eq_none (by simp; omega), List.getElem?_eq_none (by rw [gl_len]; omega)]
theorem lf_of (L : List Int) : L = lf (fun i => L.getD i 0) L.length := by
  apply List.ext_getElem?
  intro i
  by_cases hi : i < L.length
  · rw [lf_at _ hi, List.getD_eq_getElem?_getD, List.getElem?_eq_getElem hi]; rfl
  · rw [List.getElem?_eq_none (by omega), List.getElem?_eq_none (by rw [lf_len]; omega)]

theorem allIn_at {lo hi : Int} {A : List Int} (h : allIn lo hi A = true) {i : Nat} (hi' : i < A.length) : lo ≤ A.getD i 0 ∧ A.getD i 0 ≤ hi := by
  unfold allIn at h
  rw [List.all_eq_true] at h
  have := h A[i] (List.getElem_mem _)
  rw [List.getD_eq_getElem?_getD, List.getElem?_eq_getElem hi']
  simpa using this
theorem ent_bd {M : List (List Int)} (hm : isMat M = true) (i j : Nat) : 0 ≤ ent M i j ∧ ent M i j ≤ 9 := by
  unfold ent
  by_cases hi : i < M.length
  · obtain ⟨h1, h2⟩ := isMat_row hm hi
    by_cases hj : j < (M.getD i []).length
    · exact allIn_at h2 hj
    · rw [List.getD_eq_getElem?_getD (l := M.getD i []), List.getElem?_eq_none (by omega)]; exact ⟨Int.le_refl _, by decide⟩
  · rw [List.getD_eq_getElem?_getD (l := M), List.getElem?_eq_none (by omega)]; simp
theorem matC_at (M : List (List Int)) {i j : Nat} (hi : i < 8) (hj : j < 8) : (matC M)[1 + i * 8 + j]? = some (G (ent M i j)) := by
  rw [show 1 + i * 8 + j = (i * 8 + j) + 1 by omega]
  show (sq _)[i * 8 + j]? = _
  rw [sq_at _ (by omega), show (i * 8 + j) / 8 = i by omega, show (i * 8 + j) % 8 = j by omega]
theorem matC_len (M : List (List Int)) : (matC M).length = 65 := by simp [matC, sq_len]
theorem matC_inj {M M' : List (List Int)} (h : isMat M = true) (h' : isMat M' = true) (e : matC M = matC M') : M = M' := by
  have e0 := congrArg List.head? e
  simp only [matC, List.head?_cons, Option.some.injEq, AV.int.injEq, true_and, Int.natCast_inj] at e0
  have n1 := isMat_n h
  apply List.ext_getElem?
  intro i
  by_cases hi : i < M.length
  · obtain ⟨r1, _⟩ := isMat_row h hi
    obtain ⟨r2, _⟩ := isMat_row h' (by omega : i < M'.length)
    have key : M.getD i [] = M'.getD i [] := by
      rw [lf_of (M.getD i []), lf_of (M'.getD i []), r1, r2, ← e0]
      apply lf_ext
      intro j hj
      have x1 := matC_at M (show i < 8 by omega) (show j < 8 by omega)
      rw [e, matC_at M' (show i < 8 by omega) (show j < 8 by omega)] at x1
      simp only [Option.some.injEq, AV.int.injEq, true_and] at x1
      exact x1.symm
    rw [List.getD_eq_getElem?_getD, List.getD_eq_getElem?_getD, List.getElem?_eq_getElem hi, List.getElem?_eq_getElem (by omega : i < M'.length)] at key
    rw [List.getElem?_eq_getElem hi, List.getElem?_eq_getElem (by omega : i < M'.length)]
    exact congrArg some key
  · rw [List.getElem?_eq_none (by omega), List.getElem?_eq_none (by omega)]
theorem act_fa (call : CallF) (h0 : Heap) (s : T) (h : Heap) (off : Nat) (x : AOpd) : act call h0 s h (.fieldAddr off x) = pure1 (match x.ev s with | .ptr b o v => some (.ptr b (o + off) v) | _ => none) := rfl
theorem act_load (call : CallF) (h0 : Heap) (s : T) (h : Heap) (k : Option Nat) (x : AOpd) : act call h0 s h (.load k x) = match x.ev s with
    | .ptr b o v => (loadA h k (.ptr b o v)).map fun r => (r, { reads := [(b, o, k.getD 1)] })
    | _ => none := rfl

/-! ### The sums -/
def nxv (M : List (List Int)) (X : List Int) (i : Nat) : Nat → Int
  | 0 => 0
  | j + 1 => nxv M X i j + ent M i j * X.getD j 0
def nxtL (M : List (List Int)) (X : List Int) : List Int := lf (fun i => nxv M X i M.length) M.length
/-! ### next -/
section
variable {M : List (List Int)} {X : List Int} {n : Nat}
end

end Go.Proofs.Ytjeemgaoonapgaa.Ev
