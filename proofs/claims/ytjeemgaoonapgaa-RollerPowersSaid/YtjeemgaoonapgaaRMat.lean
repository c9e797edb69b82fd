/-
  What newMatrix, Matrix and Vector answer. No condition.
-/
import Derived.Test.YtjeemgaoonapgaaRList
set_option linter.unusedVariables false
set_option linter.unusedSimpArgs false
namespace Go.Proofs.Ytjeemgaoonapgaa.Ev
open Go Go.AEv

attribute [local simp] evFunc initS evOps_c evTrim_c evSkip_c evExit_c evRet_c evSeq_c evCond_c evBlock_c evDraw_c runOps_n runOps_c exec_n exec_g pure1_c act AOpd.ev T.get T.set T.put evBin evUn forceT_eq forceV_eq forceL_eq evRess evRes one keep runFP_n runFP_c app_none AV.flats AV.flat came_some List.getElem?_cons_zero List.getElem?_cons_succ beqT wrapI idxI tdivI tmodI decT decF ibT ibF inT inF evScope_c if_pos if_neg Cm_some thenW_n thenW_e thenW_r blkW_n blkW_e blkW_r goI kn putAt AV.cells fillA loadA takeA mk Eff.isAll Eff.isNone Eff.commutes Eff.spares okPair apart eqAgg fits LK.fits allEq aveq eqk mmA

/-! ### Matrices -/
def ent (M : List (List Int)) (i j : Nat) : Int := (M.getD i []).getD j 0
def rowOk (n : Nat) (l : List Int) : Bool := decide (l.length = n) && allIn 0 9 l
def isMat (M : List (List Int)) : Bool := decide (1 ≤ M.length ∧ M.length ≤ 8) && M.all (rowOk M.length)
def sq (a : Nat → Int) : List AV := (List.range 64).map fun x => G (a x)
theorem sq_len (a : Nat → Int) : (sq a).length = 64 := by simp [sq]
theorem sq_at (a : Nat → Int) {x : Nat} (h : x < 64) : (sq a)[x]? = some (G (a x)) := by simp [sq, h]
theorem sq_ext (a b : Nat → Int) (h : ∀ x, x < 64 → a x = b x) : sq a = sq b := by
  unfold sq; apply List.map_congr_left; intro x hx; rw [h x (by simpa using hx)]
theorem sq_flat (a : Nat → Int) : AV.flats (sq a) = true := by
  unfold sq
  induction List.range 64 with
  | nil => rfl
  | cons x xs ih => simp only [List.map_cons, AV.flats, AV.flat, ih, Bool.true_and]
theorem sq_set (a : Nat → Int) (i : Nat) (b : Int) (h : i < 64) : (sq a).set i (G b) = sq (fun x => if x = i then b else a x) := by
  apply List.ext_getElem?
  intro x
  by_cases hx : x < 64
  · rw [sq_at _ hx]
    by_cases e : x = i
    · subst e; rw [List.getElem?_set_self (by rw [sq_len]; exact h), if_pos rfl]
    · rw [List.getElem?_set_ne (fun e' => e e'.symm), sq_at _ hx, if_neg e]
  · rw [List.getElem?_eq_none (by simp [sq_len]; omega), List.getElem?_eq_none (by simp [sq_len]; omega)]
theorem sq_rep : List.replicate 64 (AV.int .i64 0) = sq (fun _ => 0) := by
  apply List.ext_getElem?
  intro x
  by_cases hx : x < 64
  · rw [sq_at _ hx, List.getElem?_replicate, if_pos hx]
  · rw [List.getElem?_eq_none (by simp; omega), List.getElem?_eq_none (by simp [sq_len]; omega)]
/-- The cells of a matrix. -/
def matC (M : List (List Int)) : List AV := G M.length :: sq (fun x => ent M (x / 8) (x % 8))
/-- The first i rows are copied. -/
def cM (M : List (List Int)) (i : Nat) : List AV := G M.length :: sq (fun x => if x / 8 < i then ent M (x / 8) (x % 8) else 0)
theorem cM_len (M : List (List Int)) (i : Nat) : (cM M i).length = 65 := by simp [cM, sq_len]
theorem cM_all (M : List (List Int)) : cM M M.length = matC M := by
  unfold cM matC
  congr 1
  apply sq_ext
  intro x _
  split
  · rfl
  · unfold ent
    rw [List.getD_eq_getElem?_getD (l := M), List.getElem?_eq_none (by omega)]; rfl
theorem cM_0 (M : List (List Int)) : (List.replicate 65 (AV.int .i64 0)).set 0 (G M.length) = cM M 0 := by
  rw [show (65 : Nat) = 64 + 1 from rfl, List.replicate_succ, sq_rep]
  show G M.length :: _ = G M.length :: _
  congr 1
theorem cM_put (M : List (List Int)) {i : Nat} (hi : i < 8) {l : List Int} (hl : M.getD i [] = l) (h8 : l.length ≤ 8) : putAt (cM M i) (1 + i * 8) (gs l) = cM M (i + 1) := by
  apply List.ext_getElem?
  intro k
  rw [putAt_get _ _ _ _ (by rw [cM_len]; simp; omega)]
  cases k with
  | zero => rw [if_neg (by omega)]; rfl
  | succ x =>
    by_cases hx : x < 64
    · have e1 : (cM M i)[x + 1]? = some (G (if x / 8 < i then ent M (x / 8) (x % 8) else 0)) := by
        show (sq _)[x]? = _
        rw [sq_at _ hx]
      have e2 : (cM M (i + 1))[x + 1]? = some (G (if x / 8 < i + 1 then ent M (x / 8) (x % 8) else 0)) := by
        show (sq _)[x]? = _
        rw [sq_at _ hx]
      rw [e1, e2]
      have el : (gs l).length = l.length := by simp
      by_cases h1 : x / 8 < i
      · rw [if_neg (by omega), if_pos h1, if_pos (by omega)]
      · rw [if_neg h1]
        by_cases h2 : x / 8 = i
        · have en : ent M (x / 8) (x % 8) = l.getD (x % 8) 0 := by unfold ent; rw [h2, hl]
          rw [if_pos (show x / 8 < i + 1 by omega), en]
          by_cases h3 : x % 8 < l.length
          · rw [if_pos (by omega), show x + 1 - (1 + i * 8) = x % 8 by omega, List.getElem?_map, List.getD_eq_getElem?_getD, List.getElem?_eq_getElem h3]; rfl
          · rw [if_neg (by omega), List.getD_eq_getElem?_getD, List.getElem?_eq_none (by omega)]; rfl
        · rw [if_neg (by omega), if_neg (by omega)]
    · rw [if_neg (by simp; omega), List.getElem?_eq_none (by rw [cM_len]; omega), List.getElem?_eq_none (by rw [cM_len]; omega)]

section
variable {M : List (List Int)} {y : AV} {n : Nat}
abbrev L54 : List Path := [[true], [true, false], [false, false, false, false], [true, false, false, false], [false, true, false, false]]
theorem c54_good (J : CallF) (k55 : K55 J) (h : Heap) {cs Z C C1 : List AV} {b v i rb rv : Nat} {l : List Int} (g : h.get b = .cells 1 v cs) (er : cs[i]? = some (.slice rb 0 n rv)) (gr : h.get rb = .cells 1 rv (gs l)) (hi : i < n) (h8 : n ≤ 8) (hl : l.length = n) (hin : allIn 0 9 l = true) (hC : C.length = 65) (hn : C[0]? = some (G n)) (hp : putAt C (1 + i * 8) (gs l) = C1) :
    Tr tbl J (.trim L54 c54_b0) (fun s h' => s.get [true] = .ptr h.size 0 65 ∧ s.get [true, false] = .ptr (h.size + 1) 0 65 ∧ s.get [false, false, false, false] = .slice b 0 n v ∧ s.get [true, false, false, false] = G n ∧ s.get [false, true, false, false] = G i ∧ h' = ⟨h.get, h.size, [.cells 0 65 Z, .cells 0 65 C]⟩) .normal (fun s h' => s.get [true] = .ptr h.size 0 65 ∧ s.get [true, false] = .ptr (h.size + 1) 0 65 ∧ s.get [false, false, false, false] = .slice b 0 n v ∧ s.get [true, false, false, false] = G n ∧ s.get [false, true, false, false] = G ((i + 1 : Nat) : Int) ∧ h' = ⟨h.get, h.size, [.cells 0 65 Z, .cells 0 65 C1]⟩) := by
  have lr : LR h (.slice rb 0 n rv) l := .inl (listOf_cells gr hl)
  have k := k55 77 0 9 _ _ l rfl (LR.lo lr [.cells 0 65 Z, .cells 0 65 C]) (by omega)
  rw [hin] at k
  have er' : ∀ h : i < cs.length, cs[i] = .slice rb 0 n rv := fun h => by rw [List.getElem?_eq_getElem h] at er; exact Option.some.inj er
  have hn' : ∀ h : 0 < C.length, C[0] = G n := fun h => by rw [List.getElem?_eq_getElem h] at hn; exact Option.some.inj hn
  have b1 := get_lt g (by simp)
  have b2 := get_lt gr (by simp)
  have e1 : (gs l).length = n := by simp [hl]
  have hj : i * 8 + n ≤ 64 := by omega
  generalize gs l = cl at *
  have e2 : cl.take n = cl := List.take_of_length_le (by omega)
  have e3 : min n 8 = n := by omega
  have t : Tr tbl J ((.trim L54 c54_b0)) (fun s h' => s.get [true] = .ptr h.size 0 65 ∧ s.get [true, false] = .ptr (h.size + 1) 0 65 ∧ s.get [false, false, false, false] = .slice b 0 n v ∧ s.get [true, false, false, false] = G n ∧ s.get [false, true, false, false] = G i ∧ h' = ⟨h.get, h.size, [.cells 0 65 Z, .cells 0 65 C]⟩) .normal (fun s h' => s.get [true] = .ptr h.size 0 65 ∧ s.get [true, false] = .ptr (h.size + 1) 0 65 ∧ s.get [false, false, false, false] = .slice b 0 n v ∧ s.get [true, false, false, false] = G n ∧ s.get [false, true, false, false] = G ((i + 1 : Nat) : Int) ∧ h' = ⟨h.get, h.size, [.cells 0 65 Z, .cells 0 65 C1]⟩) := Tr.region fun s h hp => by
    obtain ⟨g0, g1, g2, g3, g4, rfl⟩ := hp
    simp (disch := first | omega | exact getEq rfl | exact getO0 | exact Nat.le_of_ble_eq_true rfl) [c54_b0, c54_o5, c54_o6, c54_o7, c54_o9, c54_o10, size_mk, get_mk_lt, get_mk_ge, frameOf, Eff.app, Heap.setOwn, g0, g1, g2, g3, g4, g, gr, er, er', hn, hn', k, hC, hp, e1, e2, e3, elems, rdOf, copyA, bounds]
  exact t
theorem c54_bad (J : CallF) (k55 : K55 J) (h : Heap) {cs Z C : List AV} {b v i : Nat} {l : List Int} (g : h.get b = .cells 1 v cs) {r : AV} (er : cs[i]? = some r) (hr : LR h r l) (hi : i < n) (h8 : n ≤ 8) (hbad : rowOk n l = false) (hC : C.length = 65) (hZ : Z.length = 65) (hn : C[0]? = some (G n)) :
    Tr tbl J (.trim L54 c54_b0) (fun s h' => s.get [true] = .ptr h.size 0 65 ∧ s.get [true, false] = .ptr (h.size + 1) 0 65 ∧ s.get [false, false, false, false] = .slice b 0 n v ∧ s.get [true, false, false, false] = G n ∧ s.get [false, true, false, false] = G i ∧ h' = ⟨h.get, h.size, [.cells 0 65 Z, .cells 0 65 C]⟩) .ret (fun s h' => s.get [true] = .ptr h.size 0 65 ∧ s.get [false, false] = .bool false ∧ h' = ⟨h.get, h.size, [.cells 0 65 C, .cells 0 65 C]⟩) := by
  have er' : ∀ h : i < cs.length, cs[i] = r := fun h => by rw [List.getElem?_eq_getElem h] at er; exact Option.some.inj er
  have hn' : ∀ h : 0 < C.length, C[0] = G n := fun h => by rw [List.getElem?_eq_getElem h] at hn; exact Option.some.inj hn
  have b1 := get_lt g (by simp)
  have et : C.take 65 = C := List.take_of_length_le (by omega)
  have ep : putAt Z 0 C = C := putAt_all _ _ (by omega)
  have hs := LR.sl hr
  obtain ⟨m, hm⟩ : ∃ m, l.length = m := ⟨_, rfl⟩
  by_cases c : m = n
  · have hin : allIn 0 9 l = false := by
      unfold rowOk at hbad
      simpa [hm, c] using hbad
    have k := k55 77 0 9 _ _ l rfl (LR.lo hr [.cells 0 65 Z, .cells 0 65 C]) (by omega)
    rw [hin] at k
    rw [hm, c] at hs
    have t : Tr tbl J ((.trim L54 c54_b0)) (fun s h' => s.get [true] = .ptr h.size 0 65 ∧ s.get [true, false] = .ptr (h.size + 1) 0 65 ∧ s.get [false, false, false, false] = .slice b 0 n v ∧ s.get [true, false, false, false] = G n ∧ s.get [false, true, false, false] = G i ∧ h' = ⟨h.get, h.size, [.cells 0 65 Z, .cells 0 65 C]⟩) .ret (fun s h' => s.get [true] = .ptr h.size 0 65 ∧ s.get [false, false] = .bool false ∧ h' = ⟨h.get, h.size, [.cells 0 65 C, .cells 0 65 C]⟩) := Tr.region fun s h hp => by
      obtain ⟨g0, g1, g2, g3, g4, rfl⟩ := hp
      rcases hs with ⟨rfl, h0⟩ | ⟨rfl, h0⟩ | ⟨b', v', rfl⟩ <;> first | omega | simp (disch := first | omega | exact getEq rfl | exact getO0 | exact Nat.le_of_ble_eq_true rfl) [c54_b0, c54_o5, c54_o6, c54_o7, c54_o8, size_mk, get_mk_lt, get_mk_ge, frameOf, Eff.app, Heap.setOwn, g0, g1, g2, g3, g4, g, er, er', hn, hn', k, hC, hZ, et, ep]
    exact t
  · rw [hm] at hs
    have t : Tr tbl J ((.trim L54 c54_b0)) (fun s h' => s.get [true] = .ptr h.size 0 65 ∧ s.get [true, false] = .ptr (h.size + 1) 0 65 ∧ s.get [false, false, false, false] = .slice b 0 n v ∧ s.get [true, false, false, false] = G n ∧ s.get [false, true, false, false] = G i ∧ h' = ⟨h.get, h.size, [.cells 0 65 Z, .cells 0 65 C]⟩) .ret (fun s h' => s.get [true] = .ptr h.size 0 65 ∧ s.get [false, false] = .bool false ∧ h' = ⟨h.get, h.size, [.cells 0 65 C, .cells 0 65 C]⟩) := Tr.region fun s h hp => by
      obtain ⟨g0, g1, g2, g3, g4, rfl⟩ := hp
      rcases hs with ⟨rfl, h0⟩ | ⟨rfl, h0⟩ | ⟨b', v', rfl⟩ <;> (try subst h0) <;> simp (disch := first | omega | exact getEq rfl | exact getO0 | exact Nat.le_of_ble_eq_true rfl) [c54_b0, c54_o5, c54_o6, c54_o7, c54_o8, size_mk, get_mk_lt, get_mk_ge, frameOf, Eff.app, Heap.setOwn, g0, g1, g2, g3, g4, g, er, er', hn, hn', hC, hZ, et, ep, c, inT]
    exact t
theorem isMat_row {i : Nat} (hm : isMat M = true) (hi : i < M.length) : (M.getD i []).length = M.length ∧ allIn 0 9 (M.getD i []) = true := by
  unfold isMat at hm
  simp only [Bool.and_eq_true, List.all_eq_true, decide_eq_true_eq] at hm
  have := hm.2 M[i] (List.getElem_mem _)
  unfold rowOk at this
  simp only [Bool.and_eq_true, decide_eq_true_eq] at this
  rw [List.getD_eq_getElem?_getD, List.getElem?_eq_getElem hi]
  exact this
theorem isMat_n (hm : isMat M = true) : 1 ≤ M.length ∧ M.length ≤ 8 := by
  unfold isMat at hm
  simp only [Bool.and_eq_true, decide_eq_true_eq] at hm
  exact hm.1
/-- The rows from i on. -/
def rowsFrom (M : List (List Int)) (i : Nat) : Bool := (M.drop i).all (rowOk M.length)
theorem rowsFrom_s {i : Nat} (hi : i < M.length) : rowsFrom M i = (rowOk M.length (M.getD i []) && rowsFrom M (i + 1)) := by
  unfold rowsFrom
  rw [List.drop_eq_getElem_cons hi, List.all_cons, List.getD_eq_getElem?_getD, List.getElem?_eq_getElem hi]; rfl
theorem rowsFrom_n : rowsFrom M M.length = true := by
  unfold rowsFrom; rw [List.drop_of_length_le (by omega)]; rfl
theorem c54_loop (J : CallF) (k55 : K55 J) (h : Heap) (hy : MR h y M) (h8 : 1 ≤ M.length ∧ M.length ≤ 8) {Z : List AV} (hZ : Z.length = 65) : ∀ j i, i + j = M.length →
    (rowsFrom M i = true → Tr tbl J c54_l0 (fun s h' => s.get [true] = .ptr h.size 0 65 ∧ s.get [true, false] = .ptr (h.size + 1) 0 65 ∧ s.get [false, false, false, false] = y ∧ s.get [true, false, false, false] = G M.length ∧ s.get [false, true, false, false] = G i ∧ h' = ⟨h.get, h.size, [.cells 0 65 Z, .cells 0 65 (cM M i)]⟩) (.exit 0) (fun s h' => s.get [true] = .ptr h.size 0 65 ∧ s.get [true, false] = .ptr (h.size + 1) 0 65 ∧ h' = ⟨h.get, h.size, [.cells 0 65 Z, .cells 0 65 (matC M)]⟩)) ∧
    (rowsFrom M i = false → ∃ k, Tr tbl J c54_l0 (fun s h' => s.get [true] = .ptr h.size 0 65 ∧ s.get [true, false] = .ptr (h.size + 1) 0 65 ∧ s.get [false, false, false, false] = y ∧ s.get [true, false, false, false] = G M.length ∧ s.get [false, true, false, false] = G i ∧ h' = ⟨h.get, h.size, [.cells 0 65 Z, .cells 0 65 (cM M i)]⟩) .ret (fun s h' => s.get [true] = .ptr h.size 0 65 ∧ s.get [false, false] = .bool false ∧ h' = ⟨h.get, h.size, [.cells 0 65 (cM M k), .cells 0 65 (cM M k)]⟩)) := by
  intro j
  induction j with
  | zero =>
    intro i hi
    obtain rfl : i = M.length := by omega
    refine ⟨fun _ => ?_, fun hne => by rw [rowsFrom_n] at hne; cases hne⟩
    rw [cM_all]
    generalize matC M = C at *
    generalize M.length = n at *
    have t : Tr tbl J ((.trim L54 c54_b0)) (fun s h' => s.get [true] = .ptr h.size 0 65 ∧ s.get [true, false] = .ptr (h.size + 1) 0 65 ∧ s.get [false, false, false, false] = y ∧ s.get [true, false, false, false] = G n ∧ s.get [false, true, false, false] = G n ∧ h' = ⟨h.get, h.size, [.cells 0 65 Z, .cells 0 65 C]⟩) (.exit 0) (fun s h' => s.get [true] = .ptr h.size 0 65 ∧ s.get [true, false] = .ptr (h.size + 1) 0 65 ∧ h' = ⟨h.get, h.size, [.cells 0 65 Z, .cells 0 65 C]⟩) := Tr.region fun s h hp => by
      obtain ⟨g0, g1, g2, g3, g4, rfl⟩ := hp
      simp (disch := first | omega | exact getEq rfl | exact getO0 | exact Nat.le_of_ble_eq_true rfl) [c54_b0, c54_o5, size_mk, get_mk_lt, get_mk_ge, frameOf, Eff.app, Heap.setOwn, g0, g1, g2, g3, g4]
    exact Tr.out t (by simp)
  | succ j ih =>
    intro i hi
    have ih' := ih (i + 1) (by omega)
    have hiM : i < M.length := by omega
    obtain ⟨b, v, cs, r, rfl, g, er, hr⟩ := hy.row hiM
    rw [rowsFrom_s hiM]
    by_cases c : rowOk M.length (M.getD i []) = true
    · rw [c, Bool.true_and]
      have c' := c
      unfold rowOk at c'
      simp only [Bool.and_eq_true, decide_eq_true_eq] at c'
      rcases hr.cases with ⟨_, e⟩ | ⟨_, e⟩ | ⟨rb, rv, rfl, gr⟩
      · rw [e] at c'; have := c'.1; simp at this; omega
      · rw [e] at c'; have := c'.1; simp at this; omega
      · rw [c'.1] at er
        have t := c54_good J k55 h (Z := Z) (C := cM M i) g er gr hiM h8.2 c'.1 c'.2 (cM_len _ _) rfl (cM_put M (by omega) rfl (by omega))
        exact ⟨fun e => Tr.next t (ih'.1 e), fun e => by
          obtain ⟨k, tk⟩ := ih'.2 e
          exact ⟨k, Tr.next t tk⟩⟩
    · have c0 : rowOk M.length (M.getD i []) = false := by simpa using c
      rw [c0, Bool.false_and]
      exact ⟨fun e => (by cases e), fun _ => ⟨i, Tr.out (c54_bad J k55 h g er hr hiM h8.2 c0 (cM_len _ _) hZ rfl) (by simp)⟩⟩

theorem c54_ok (J : CallF) (k57 : K57 J) (k55 : K55 J) (hJ : ∀ a h, J 54 a h = none) (h : Heap) (hy : MR h y M) : ∃ v own, CallsTo tbl J 54 [y] h (v, own, false) ∧ own = [] ∧ ∃ cs, v = .tup [.agg cs, .bool (isMat M)] ∧ cs.length = 65 ∧ (isMat M = true → cs = matC M) := by
  refine Tr.fny (cf := c54) (e := .ret) (s := T.set .leaf [] y) (by decide) rfl (hJ _ _) rfl rfl (by simp) ?_
  have fin : ∀ (C : List AV) (o : Bool) (D : List AV), AV.flats C = true → C.length = 65 → o = isMat M → (o = true → C = matC M) → ∀ s h', (s.get [true] = .ptr h.size 0 65 ∧ s.get [false, false] = .bool o ∧ h' = ⟨h.get, h.size, [.cells 0 65 C, .cells 0 65 D]⟩) → ∃ vs, evRess h' s c54.results = some vs ∧ (if (one vs).flat = true then [] else h'.own) = [] ∧ ∃ cs, one vs = .tup [.agg cs, .bool (isMat M)] ∧ cs.length = 65 ∧ (isMat M = true → cs = matC M) := by
    rintro C o D hf hl rfl hC s h' ⟨q1, q2, rfl⟩
    have et : C.take 65 = C := List.take_of_length_le (by omega)
    refine ⟨[.agg C, .bool (isMat M)], by simp [c54, evRess, evRes, q1, q2, loadA, get_mk_ge, takeA, et, hl], by simp [one, AV.flat, AV.flats, hf], C, rfl, hl, hC⟩
  have cfl : ∀ i, AV.flats (cM M i) = true := fun i => by
    unfold cM
    simp only [AV.flats, AV.flat, sq_flat, Bool.and_self]
  have mfl : AV.flats (matC M) = true := by rw [← cM_all]; exact cfl _
  have hs := hy.sl
  have c0 := cM_0 M
  have lZ : (List.replicate 65 (AV.int .i64 0)).length = 65 := List.length_replicate
  generalize hZ : List.replicate 65 (AV.int .i64 0) = Z at *
  have l0 := cM_len M 0
  have k := fun h => k57 M.length 1 8 h
  have t0 : Tr tbl J ((.seq c54_o0 c54_o1)) (fun s h' => s = T.set .leaf [] y ∧ h' = frameOf h) .normal (fun s h' => s.get [] = y ∧ s.get [true] = .ptr h.size 0 65 ∧ s.get [true, false] = .ptr (h.size + 1) 0 65 ∧ h' = ⟨h.get, h.size, [.cells 0 65 Z, .cells 0 65 (cM M 0)]⟩) := Tr.region fun s h hp => by
    obtain ⟨rfl, rfl⟩ := hp
    have ep : putAt Z 0 (cM M 0) = cM M 0 := putAt_all _ _ (by omega)
    generalize cM M 0 = C at *
    generalize M.length = n at *
    rcases hs with ⟨rfl, rfl⟩ | ⟨rfl, rfl⟩ | ⟨b, v, rfl⟩ <;> (try rw [show ((0 : Nat) : Int) = 0 from rfl] at c0) <;> simp (disch := first | omega | exact getEq rfl | exact getO0 | exact Nat.le_of_ble_eq_true rfl) [-List.reduceReplicate, c54_o0, c54_o1, frameOf, size_mk, get_mk_lt, get_mk_ge, frameOf, Eff.app, Heap.setOwn, hZ, lZ, l0, c0, ep]
  by_cases h18 : (1 : Int) ≤ M.length ∧ (M.length : Int) ≤ 8
  · have kk := k ⟨h.get, h.size, [.cells 0 65 Z, .cells 0 65 (cM M 0)]⟩
    rw [decide_eq_true h18] at kk
    have hc0 : (cM M 0)[0]? = some (G M.length) := rfl
    have hc1 : ∀ h, (cM M 0)[0]'h = G M.length := fun h => rfl
    have t1 : Tr tbl J ((.seq c54_o2 (.cond (.s [false, true, true]) (.seq c54_o3 .ret) .skip))) (fun s h' => s.get [] = y ∧ s.get [true] = .ptr h.size 0 65 ∧ s.get [true, false] = .ptr (h.size + 1) 0 65 ∧ h' = ⟨h.get, h.size, [.cells 0 65 Z, .cells 0 65 (cM M 0)]⟩) .normal (fun s h' => s.get [] = y ∧ s.get [true] = .ptr h.size 0 65 ∧ s.get [true, false] = .ptr (h.size + 1) 0 65 ∧ h' = ⟨h.get, h.size, [.cells 0 65 Z, .cells 0 65 (cM M 0)]⟩) := Tr.region fun s h hp => by
      obtain ⟨g0, g1, g2, rfl⟩ := hp
      generalize cM M 0 = C at *
      simp (disch := first | omega | exact getEq rfl | exact getO0 | exact Nat.le_of_ble_eq_true rfl) [c54_o2, size_mk, get_mk_lt, get_mk_ge, frameOf, Eff.app, Heap.setOwn, g0, g1, g2, kk, hc0, hc1, l0]
    have t2 : Tr tbl J (c54_o4) (fun s h' => s.get [] = y ∧ s.get [true] = .ptr h.size 0 65 ∧ s.get [true, false] = .ptr (h.size + 1) 0 65 ∧ h' = ⟨h.get, h.size, [.cells 0 65 Z, .cells 0 65 (cM M 0)]⟩) .normal (fun s h' => s.get [true] = .ptr h.size 0 65 ∧ s.get [true, false] = .ptr (h.size + 1) 0 65 ∧ s.get [false, false, false, false] = y ∧ s.get [true, false, false, false] = G M.length ∧ s.get [false, true, false, false] = G ((0 : Nat) : Int) ∧ h' = ⟨h.get, h.size, [.cells 0 65 Z, .cells 0 65 (cM M 0)]⟩) := Tr.region fun s h hp => by
      obtain ⟨g0, g1, g2, rfl⟩ := hp
      generalize cM M 0 = C at *
      generalize M.length = n at *
      rcases hs with ⟨rfl, rfl⟩ | ⟨rfl, rfl⟩ | ⟨b, v, rfl⟩ <;> simp (disch := first | omega | exact getEq rfl | exact getO0 | exact Nat.le_of_ble_eq_true rfl) [c54_o4, size_mk, get_mk_lt, get_mk_ge, frameOf, Eff.app, Heap.setOwn, g0, g1, g2]
    have hl := c54_loop J k55 h hy ⟨by omega, by omega⟩ lZ M.length 0 (by omega)
    have hd : isMat M = rowsFrom M 0 := by
      unfold isMat rowsFrom
      rw [List.drop_zero, decide_eq_true (⟨by omega, by omega⟩ : 1 ≤ M.length ∧ M.length ≤ 8), Bool.true_and]
    by_cases c : rowsFrom M 0 = true
    ·
      have t3 : Tr tbl J ((.seq c54_o11 .ret)) (fun s h' => s.get [true] = .ptr h.size 0 65 ∧ s.get [true, false] = .ptr (h.size + 1) 0 65 ∧ h' = ⟨h.get, h.size, [.cells 0 65 Z, .cells 0 65 (matC M)]⟩) .ret (fun s h' => s.get [true] = .ptr h.size 0 65 ∧ s.get [false, false] = .bool true ∧ h' = ⟨h.get, h.size, [.cells 0 65 (matC M), .cells 0 65 (matC M)]⟩) := Tr.region fun s h hp => by
        obtain ⟨g0, g1, rfl⟩ := hp
        have lm : (matC M).length = 65 := by rw [← cM_all]; exact cM_len _ _
        have et : (matC M).take 65 = matC M := List.take_of_length_le (by omega)
        have ep : putAt Z 0 (matC M) = matC M := putAt_all _ _ (by omega)
        generalize matC M = C at *
        simp (disch := first | omega | exact getEq rfl | exact getO0 | exact Nat.le_of_ble_eq_true rfl) [c54_o11, size_mk, get_mk_lt, get_mk_ge, frameOf, Eff.app, Heap.setOwn, g0, g1, lm, et, ep, lZ]
      exact Tr.post (fin (matC M) true _ mfl (by rw [← cM_all]; exact cM_len _ _) (by rw [hd, c]) (fun _ => rfl)) (Tr.app2 t0 (Tr.seq t1 (Tr.seq (Tr.seq t2 (Tr.block (hl.1 c))) t3)))
    · have c' : rowsFrom M 0 = false := by simpa using c
      obtain ⟨k, tk⟩ := hl.2 c'
      exact Tr.post (fin (cM M k) false _ (cfl k) (cM_len _ _) (by rw [hd, c']) (fun e => by cases e)) (Tr.app2 t0 (Tr.seq t1 (Tr.seq_out (Tr.seq t2 (Tr.block_out tk (by simp))) (by simp))))
  · have kk := k ⟨h.get, h.size, [.cells 0 65 Z, .cells 0 65 (cM M 0)]⟩
    rw [decide_eq_false h18] at kk
    have hc0 : (cM M 0)[0]? = some (G M.length) := rfl
    have hc1 : ∀ h, (cM M 0)[0]'h = G M.length := fun h => rfl
    have t1 : Tr tbl J ((.seq c54_o2 (.cond (.s [false, true, true]) (.seq c54_o3 .ret) .skip))) (fun s h' => s.get [] = y ∧ s.get [true] = .ptr h.size 0 65 ∧ s.get [true, false] = .ptr (h.size + 1) 0 65 ∧ h' = ⟨h.get, h.size, [.cells 0 65 Z, .cells 0 65 (cM M 0)]⟩) .ret (fun s h' => s.get [true] = .ptr h.size 0 65 ∧ s.get [false, false] = .bool false ∧ h' = ⟨h.get, h.size, [.cells 0 65 (cM M 0), .cells 0 65 (cM M 0)]⟩) := Tr.region fun s h hp => by
      obtain ⟨g0, g1, g2, rfl⟩ := hp
      have et : (cM M 0).take 65 = cM M 0 := List.take_of_length_le (by omega)
      have ep : putAt Z 0 (cM M 0) = cM M 0 := putAt_all _ _ (by omega)
      generalize cM M 0 = C at *
      simp (disch := first | omega | exact getEq rfl | exact getO0 | exact Nat.le_of_ble_eq_true rfl) [c54_o2, c54_o3, size_mk, get_mk_lt, get_mk_ge, frameOf, Eff.app, Heap.setOwn, g0, g1, g2, kk, hc0, hc1, l0, et, ep, lZ]
    have hd : isMat M = false := by
      unfold isMat
      rw [decide_eq_false (by omega), Bool.false_and]
    exact Tr.post (fin (cM M 0) false _ (cfl 0) (cM_len _ _) hd.symm (fun e => by cases e)) (Tr.app2 t0 (Tr.seq_out t1 (by simp)))
end
def Good54 (args : List AV) (h : Heap) (v : AV) (own : List AObj) : Prop := ∀ y M, args = [y] → MR h y M → own = [] ∧ ∃ cs, v = .tup [.agg cs, .bool (isMat M)] ∧ cs.length = 65 ∧ (isMat M = true → cs = matC M)
noncomputable def R14 : CallF := addX tbl R13 54 Good54
theorem s14 : Sound Go.Proofs.Try.prog R14 := Sound.addX follows ok s13 (by decide) Good54
abbrev K54 (J : CallF) : Prop := ∀ (h : Heap) (y : AV) (M : List (List Int)), MR h y M → ∃ cs, J 54 [y] h = some (.tup [.agg cs, .bool (isMat M)], [], false) ∧ cs.length = 65 ∧ (isMat M = true → cs = matC M)
theorem k54 : K54 R14 := fun h y M hy => by
  obtain ⟨v, own, e, q⟩ := c54_ok R13 (fun n lo hi h => k57 n lo hi h) (fun f lo hi h x A a b c => k55 f lo hi h x A a b c) (fun _ _ => rfl) h hy
  obtain ⟨v', own', e', g⟩ := addX_some (tbl := tbl) (I := R13) (f := 54) (Good := Good54) (args := [y]) (h := h) ⟨v, own, e, fun y' M' hargs h1 => by
    simp only [List.cons.injEq, and_true] at hargs
    subst hargs
    rw [← hy.inj h1]; exact q⟩
  obtain ⟨o1, cs, o2, o3⟩ := g y M rfl hy
  subst o1 o2
  exact ⟨cs, e', o3⟩

end Go.Proofs.Ytjeemgaoonapgaa.Ev
