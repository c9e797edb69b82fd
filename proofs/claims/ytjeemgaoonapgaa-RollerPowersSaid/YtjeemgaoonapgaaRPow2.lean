/-
  The product of two squares, and rows. No condition.
-/
import Derived.Test.YtjeemgaoonapgaaRPow
set_option linter.unusedVariables false
set_option linter.unusedSimpArgs false
namespace Go.Proofs.Ytjeemgaoonapgaa.Ev
open Go Go.AEv

attribute [local simp] evFunc initS evOps_c evTrim_c evSkip_c evExit_c evRet_c evSeq_c evCond_c evBlock_c evDraw_c runOps_n runOps_c exec_n exec_g pure1_c act AOpd.ev T.get T.set T.put evBin evUn forceT_eq forceV_eq forceL_eq evRess evRes one keep runFP_n runFP_c app_none AV.flats AV.flat came_some List.getElem?_cons_zero List.getElem?_cons_succ beqT wrapI idxI tdivI tmodI decT decF ibT ibF inT inF evScope_c if_pos if_neg Cm_some thenW_n thenW_e thenW_r blkW_n blkW_e blkW_r goI kn putAt AV.cells fillA loadA takeA mk Eff.isAll Eff.isNone Eff.commutes Eff.spares okPair apart eqAgg fits LK.fits allEq aveq eqk mmA

section
variable {M : List (List Int)}
def rwOk (M : List (List Int)) (X : Nat → Int) (i j : Nat) : Prop := ∀ j', j ≤ j' → j' < M.length → dt M X i j' M.length ≤ mostP
def prOk (M : List (List Int)) (X : Nat → Int) (i : Nat) : Prop := ∀ i', i ≤ i' → i' < M.length → rwOk M X i' 0
theorem rwOk_s {X : Nat → Int} {i j : Nat} (hj : j < M.length) : rwOk M X i j ↔ dt M X i j M.length ≤ mostP ∧ rwOk M X i (j + 1) := by
  constructor
  · intro h; exact ⟨h j (Nat.le_refl _) hj, fun j' a b => h j' (by omega) b⟩
  · rintro ⟨a, b⟩ j' c d
    by_cases e : j' = j
    · subst e; exact a
    · exact b j' (by omega) d
theorem prOk_s {X : Nat → Int} {i : Nat} (hi : i < M.length) : prOk M X i ↔ rwOk M X i 0 ∧ prOk M X (i + 1) := by
  constructor
  · intro h; exact ⟨h i (Nat.le_refl _) hi, fun j' a b => h j' (by omega) b⟩
  · rintro ⟨a, b⟩ j' c d
    by_cases e : j' = i
    · subst e; exact a
    · exact b j' (by omega) d
def Fail73 (h : Heap) (M : List (List Int)) (X : Nat → Int) : SP := fun s h' => (∃ f, h' = HP h M X f) ∧ s.get [true, true] = .ptr (h.size + 3) 0 64 ∧ s.get [false, false, false] = .bool false
theorem c73_j (J : CallF) (h : Heap) (hm : isMat M = true) {X : Nat → Int} (hX : ∀ x, 0 ≤ X x ∧ X x ≤ mostP) {i : Nat} (hi : i < M.length) : ∀ d j, j + d = M.length →
    (rwOk M X i j → Tr tbl J c73_l1 (fun s h' => h' = HP h M X (oP M X i j 0) ∧ s.get [false, false] = .ptr h.size 0 65 ∧ s.get [true, false] = .ptr (h.size + 1) 0 64 ∧ s.get [false, true] = .ptr (h.size + 2) 0 64 ∧ s.get [true, true] = .ptr (h.size + 3) 0 64 ∧ s.get [true, false, false] = .ptr (h.size + 4) 0 64 ∧ s.get [false, true, false] = G i ∧ s.get [false, false, false, false] = G M.length ∧ s.get [true, false, false, false] = G i ∧ s.get [true, false, true, false] = G M.length ∧ s.get [false, true, true, false] = G j) (.exit 2) (fun s h' => h' = HP h M X (oP M X i M.length 0) ∧ s.get [false, false] = .ptr h.size 0 65 ∧ s.get [true, false] = .ptr (h.size + 1) 0 64 ∧ s.get [false, true] = .ptr (h.size + 2) 0 64 ∧ s.get [true, true] = .ptr (h.size + 3) 0 64 ∧ s.get [true, false, false] = .ptr (h.size + 4) 0 64 ∧ s.get [false, false, false, false] = G M.length ∧ s.get [true, false, false, false] = G i)) ∧
    (¬ rwOk M X i j → Tr tbl J c73_l1 (fun s h' => h' = HP h M X (oP M X i j 0) ∧ s.get [false, false] = .ptr h.size 0 65 ∧ s.get [true, false] = .ptr (h.size + 1) 0 64 ∧ s.get [false, true] = .ptr (h.size + 2) 0 64 ∧ s.get [true, true] = .ptr (h.size + 3) 0 64 ∧ s.get [true, false, false] = .ptr (h.size + 4) 0 64 ∧ s.get [false, true, false] = G i ∧ s.get [false, false, false, false] = G M.length ∧ s.get [true, false, false, false] = G i ∧ s.get [true, false, true, false] = G M.length ∧ s.get [false, true, true, false] = G j) .ret (Fail73 h M X)) := by
  have h8 := isMat_n hm
  have e0 : (matC M)[0]? = some (G M.length) := rfl
  have e0' := getI e0
  have lm := matC_len M
  intro d
  induction d with
  | zero =>
    intro j hj
    obtain rfl : j = M.length := by omega
    refine ⟨fun _ => Tr.out ?_ (by simp), fun c => absurd (fun j' a b => by omega) c⟩
    simp only [HP]
    generalize M.length = n at *
    refine Tr.w fun s1 H1 hp R kR => W.trim ?_
    obtain ⟨rfl, q⟩ := hp
    refine W.seq (W.chunk ?_)
    simp (disch := first | omega | exact getEq rfl | exact getO0 | exact Nat.le_of_ble_eq_true rfl) [c73_o6, size_mk, get_mk_lt, get_mk_ge, frameOf, Eff.app, Heap.setOwn, q]
    refine W.seq (W.chunk ?_)
    simp (disch := first | omega | exact getEq rfl | exact getO0 | exact Nat.le_of_ble_eq_true rfl) [size_mk, get_mk_lt, get_mk_ge, frameOf, Eff.app, Heap.setOwn, q]
    exact kR _ _ (by simp [T.get, q])
  | succ d ih =>
    intro j hj
    have hjn : j < M.length := by omega
    obtain ⟨ih1, ih2⟩ := ih (j + 1) (by omega)
    obtain ⟨l1, l2⟩ := c73_k J h hm hX hi hjn M.length 0 (by omega) (by show (0 : Int) ≤ mostP; decide)
    rw [rwOk_s hjn]
    by_cases c : dt M X i j M.length ≤ mostP
    · have l1 := l1 c
      rw [oP_k] at l1
      have step : Tr tbl J (.trim [[false, false], [true, false], [false, true], [true, true], [true, false, false], [false, true, false], [false, false, false, false], [true, false, false, false], [true, false, true, false], [false, true, true, false]] c73_b1) (fun s h' => h' = HP h M X (oP M X i j 0) ∧ s.get [false, false] = .ptr h.size 0 65 ∧ s.get [true, false] = .ptr (h.size + 1) 0 64 ∧ s.get [false, true] = .ptr (h.size + 2) 0 64 ∧ s.get [true, true] = .ptr (h.size + 3) 0 64 ∧ s.get [true, false, false] = .ptr (h.size + 4) 0 64 ∧ s.get [false, true, false] = G i ∧ s.get [false, false, false, false] = G M.length ∧ s.get [true, false, false, false] = G i ∧ s.get [true, false, true, false] = G M.length ∧ s.get [false, true, true, false] = G j) .normal (fun s h' => h' = HP h M X (oP M X i (j + 1) 0) ∧ s.get [false, false] = .ptr h.size 0 65 ∧ s.get [true, false] = .ptr (h.size + 1) 0 64 ∧ s.get [false, true] = .ptr (h.size + 2) 0 64 ∧ s.get [true, true] = .ptr (h.size + 3) 0 64 ∧ s.get [true, false, false] = .ptr (h.size + 4) 0 64 ∧ s.get [false, true, false] = G i ∧ s.get [false, false, false, false] = G M.length ∧ s.get [true, false, false, false] = G i ∧ s.get [true, false, true, false] = G M.length ∧ s.get [false, true, true, false] = G ((j + 1 : Nat) : Int)) := by
        simp only [HP] at l1 ⊢
        clear ih1 ih2 l2 ih
        generalize sq (oP M X i (j + 1) 0) = c1 at *
        generalize sq (oP M X i j 0) = c0 at *
        generalize matC M = cm at *
        generalize M.length = n at *
        refine Tr.w fun s1 H1 hp R kR => W.trim ?_
        obtain ⟨rfl, q⟩ := hp
        refine W.seq (W.chunk ?_)
        simp (disch := first | omega | exact getEq rfl | exact getO0 | exact Nat.le_of_ble_eq_true rfl) [c73_o6, size_mk, get_mk_lt, get_mk_ge, frameOf, Eff.app, Heap.setOwn, q]
        refine W.seq (W.chunk ?_)
        simp (disch := first | omega | exact getEq rfl | exact getO0 | exact Nat.le_of_ble_eq_true rfl) [size_mk, get_mk_lt, get_mk_ge, frameOf, Eff.app, Heap.setOwn, q]
        refine W.seq (W.block ?_)
        refine W.seq (W.chunk ?_)
        simp (disch := first | omega | exact getEq rfl | exact getO0 | exact Nat.le_of_ble_eq_true rfl) [c73_o7, size_mk, get_mk_lt, get_mk_ge, frameOf, Eff.app, Heap.setOwn, q]
        refine W.seq (W.chunk ?_)
        simp (disch := first | omega | exact getEq rfl | exact getO0 | exact Nat.le_of_ble_eq_true rfl) [c73_o8, size_mk, get_mk_lt, get_mk_ge, frameOf, Eff.app, Heap.setOwn, q, e0, e0', lm]
        refine W.block ?_
        refine W.use (l1) (by simp (disch := first | omega | exact getEq rfl | exact getO0 | exact Nat.le_of_ble_eq_true rfl) [size_mk, get_mk_lt, get_mk_ge, frameOf, Eff.app, Heap.setOwn, q]) fun s1 H1 hp => ?_
        obtain ⟨rfl, q⟩ := hp
        try simp only [thenW_n, thenW_e, thenW_r, blkW_n, blkW_e, blkW_r, if_true]
        refine W.chunk ?_
        simp (disch := first | omega | exact getEq rfl | exact getO0 | exact Nat.le_of_ble_eq_true rfl) [c73_o18, size_mk, get_mk_lt, get_mk_ge, frameOf, Eff.app, Heap.setOwn, q]
        exact kR _ _ (by simp [T.get, q])
      exact ⟨fun q => Tr.next step (ih1 q.2), fun q => Tr.next step (ih2 (fun r => q ⟨c, r⟩))⟩
    · have l2 := l2 (Int.not_le.1 c)
      refine ⟨fun q => absurd q.1 c, fun _ => Tr.out ?_ (by simp)⟩
      refine Tr.w fun s1 H1 hp R kR => W.trim ?_
      obtain ⟨rfl, q⟩ := hp
      have hl : (HP h M X (oP M X i j 0)).size = h.size + 5 := rfl
      have g0 : (HP h M X (oP M X i j 0)).get h.size = .cells 0 65 (matC M) := by unfold HP; rw [get_mk_ge _ _ _ _ (by omega)]; simp
      generalize HP h M X (oP M X i j 0) = H at *
      generalize matC M = cm at *
      refine W.seq (W.chunk ?_)
      simp (disch := first | omega | exact getEq rfl | exact getO0 | exact Nat.le_of_ble_eq_true rfl) [c73_o6, app_growP, app_noneP, plus_N, plus_at0, put_plus0, put_plus1, upd_N, upd_size, q]
      refine W.seq (W.chunk ?_)
      simp (disch := first | omega | exact getEq rfl | exact getO0 | exact Nat.le_of_ble_eq_true rfl) [app_growP, app_noneP, plus_N, plus_at0, put_plus0, put_plus1, upd_N, upd_size, q]
      refine W.seq (W.block ?_)
      refine W.seq (W.chunk ?_)
      simp (disch := first | omega | exact getEq rfl | exact getO0 | exact Nat.le_of_ble_eq_true rfl) [c73_o7, app_growP, app_noneP, plus_N, plus_at0, put_plus0, put_plus1, upd_N, upd_size, q]
      refine W.seq (W.chunk ?_)
      simp (disch := first | omega | exact getEq rfl | exact getO0 | exact Nat.le_of_ble_eq_true rfl) [c73_o8, app_growP, app_noneP, plus_N, plus_at0, put_plus0, put_plus1, upd_N, upd_size, q, g0, e0, e0', lm]
      refine W.block ?_
      refine W.use (l2) (by simp (disch := first | omega | exact getEq rfl | exact getO0 | exact Nat.le_of_ble_eq_true rfl) [app_growP, app_noneP, plus_N, plus_at0, put_plus0, put_plus1, upd_N, upd_size, q]) fun s1 H1 hp => ?_
      try simp only [thenW_n, thenW_e, thenW_r, blkW_n, blkW_e, blkW_r, if_true]
      exact kR _ _ hp
theorem c73_i (J : CallF) (h : Heap) (hm : isMat M = true) {X : Nat → Int} (hX : ∀ x, 0 ≤ X x ∧ X x ≤ mostP) : ∀ d i, i + d = M.length →
    (prOk M X i → Tr tbl J c73_l2 (fun s h' => h' = HP h M X (oP M X i 0 0) ∧ s.get [false, false] = .ptr h.size 0 65 ∧ s.get [true, false] = .ptr (h.size + 1) 0 64 ∧ s.get [false, true] = .ptr (h.size + 2) 0 64 ∧ s.get [true, true] = .ptr (h.size + 3) 0 64 ∧ s.get [true, false, false] = .ptr (h.size + 4) 0 64 ∧ s.get [false, false, false, false] = G M.length ∧ s.get [true, false, false, false] = G i) (.exit 0) (fun s h' => h' = HP h M X (oP M X M.length 0 0) ∧ s.get [true, true] = .ptr (h.size + 3) 0 64 ∧ s.get [true, false, false] = .ptr (h.size + 4) 0 64)) ∧
    (¬ prOk M X i → Tr tbl J c73_l2 (fun s h' => h' = HP h M X (oP M X i 0 0) ∧ s.get [false, false] = .ptr h.size 0 65 ∧ s.get [true, false] = .ptr (h.size + 1) 0 64 ∧ s.get [false, true] = .ptr (h.size + 2) 0 64 ∧ s.get [true, true] = .ptr (h.size + 3) 0 64 ∧ s.get [true, false, false] = .ptr (h.size + 4) 0 64 ∧ s.get [false, false, false, false] = G M.length ∧ s.get [true, false, false, false] = G i) .ret (Fail73 h M X)) := by
  have h8 := isMat_n hm
  have e0 : (matC M)[0]? = some (G M.length) := rfl
  have e0' := getI e0
  have lm := matC_len M
  intro d
  induction d with
  | zero =>
    intro i hi
    obtain rfl : i = M.length := by omega
    refine ⟨fun _ => Tr.out ?_ (by simp), fun c => absurd (fun j' a b => by omega) c⟩
    simp only [HP]
    generalize M.length = n at *
    refine Tr.w fun s1 H1 hp R kR => W.trim ?_
    obtain ⟨rfl, q⟩ := hp
    refine W.seq (W.chunk ?_)
    simp (disch := first | omega | exact getEq rfl | exact getO0 | exact Nat.le_of_ble_eq_true rfl) [c73_o3, size_mk, get_mk_lt, get_mk_ge, frameOf, Eff.app, Heap.setOwn, q]
    refine W.seq (W.chunk ?_)
    simp (disch := first | omega | exact getEq rfl | exact getO0 | exact Nat.le_of_ble_eq_true rfl) [size_mk, get_mk_lt, get_mk_ge, frameOf, Eff.app, Heap.setOwn, q]
    exact kR _ _ (by simp [T.get, q])
  | succ d ih =>
    intro i hi
    have hin : i < M.length := by omega
    obtain ⟨ih1, ih2⟩ := ih (i + 1) (by omega)
    obtain ⟨l1, l2⟩ := c73_j J h hm hX hin M.length 0 (by omega)
    rw [prOk_s hin]
    by_cases c : rwOk M X i 0
    · have l1 := l1 c
      rw [oP_j hm] at l1
      have step : Tr tbl J (.trim [[false, false], [true, false], [false, true], [true, true], [true, false, false], [false, false, false, false], [true, false, false, false]] c73_b2) (fun s h' => h' = HP h M X (oP M X i 0 0) ∧ s.get [false, false] = .ptr h.size 0 65 ∧ s.get [true, false] = .ptr (h.size + 1) 0 64 ∧ s.get [false, true] = .ptr (h.size + 2) 0 64 ∧ s.get [true, true] = .ptr (h.size + 3) 0 64 ∧ s.get [true, false, false] = .ptr (h.size + 4) 0 64 ∧ s.get [false, false, false, false] = G M.length ∧ s.get [true, false, false, false] = G i) .normal (fun s h' => h' = HP h M X (oP M X (i + 1) 0 0) ∧ s.get [false, false] = .ptr h.size 0 65 ∧ s.get [true, false] = .ptr (h.size + 1) 0 64 ∧ s.get [false, true] = .ptr (h.size + 2) 0 64 ∧ s.get [true, true] = .ptr (h.size + 3) 0 64 ∧ s.get [true, false, false] = .ptr (h.size + 4) 0 64 ∧ s.get [false, false, false, false] = G M.length ∧ s.get [true, false, false, false] = G ((i + 1 : Nat) : Int)) := by
        simp only [HP] at l1 ⊢
        clear ih1 ih2 l2 ih
        generalize sq (oP M X (i + 1) 0 0) = c1 at *
        generalize sq (oP M X i 0 0) = c0 at *
        generalize matC M = cm at *
        generalize M.length = n at *
        refine Tr.w fun s1 H1 hp R kR => W.trim ?_
        obtain ⟨rfl, q⟩ := hp
        refine W.seq (W.chunk ?_)
        simp (disch := first | omega | exact getEq rfl | exact getO0 | exact Nat.le_of_ble_eq_true rfl) [c73_o3, size_mk, get_mk_lt, get_mk_ge, frameOf, Eff.app, Heap.setOwn, q]
        refine W.seq (W.chunk ?_)
        simp (disch := first | omega | exact getEq rfl | exact getO0 | exact Nat.le_of_ble_eq_true rfl) [size_mk, get_mk_lt, get_mk_ge, frameOf, Eff.app, Heap.setOwn, q]
        refine W.seq (W.block ?_)
        refine W.seq (W.chunk ?_)
        simp (disch := first | omega | exact getEq rfl | exact getO0 | exact Nat.le_of_ble_eq_true rfl) [c73_o4, size_mk, get_mk_lt, get_mk_ge, frameOf, Eff.app, Heap.setOwn, q]
        refine W.seq (W.chunk ?_)
        simp (disch := first | omega | exact getEq rfl | exact getO0 | exact Nat.le_of_ble_eq_true rfl) [c73_o5, size_mk, get_mk_lt, get_mk_ge, frameOf, Eff.app, Heap.setOwn, q, e0, e0', lm]
        refine W.block ?_
        refine W.use (l1) (by simp (disch := first | omega | exact getEq rfl | exact getO0 | exact Nat.le_of_ble_eq_true rfl) [size_mk, get_mk_lt, get_mk_ge, frameOf, Eff.app, Heap.setOwn, q]) fun s1 H1 hp => ?_
        obtain ⟨rfl, q⟩ := hp
        try simp only [thenW_n, thenW_e, thenW_r, blkW_n, blkW_e, blkW_r, if_true]
        refine W.chunk ?_
        simp (disch := first | omega | exact getEq rfl | exact getO0 | exact Nat.le_of_ble_eq_true rfl) [c73_o19, size_mk, get_mk_lt, get_mk_ge, frameOf, Eff.app, Heap.setOwn, q]
        exact kR _ _ (by simp [T.get, q])
      exact ⟨fun q => Tr.next step (ih1 q.2), fun q => Tr.next step (ih2 (fun r => q ⟨c, r⟩))⟩
    · have l2 := l2 c
      refine ⟨fun q => absurd q.1 c, fun _ => Tr.out ?_ (by simp)⟩
      refine Tr.w fun s1 H1 hp R kR => W.trim ?_
      obtain ⟨rfl, q⟩ := hp
      have g0 : (HP h M X (oP M X i 0 0)).get h.size = .cells 0 65 (matC M) := by unfold HP; rw [get_mk_ge _ _ _ _ (by omega)]; simp
      generalize HP h M X (oP M X i 0 0) = H at *
      generalize matC M = cm at *
      refine W.seq (W.chunk ?_)
      simp (disch := first | omega | exact getEq rfl | exact getO0 | exact Nat.le_of_ble_eq_true rfl) [c73_o3, app_growP, app_noneP, plus_N, plus_at0, put_plus0, put_plus1, upd_N, upd_size, q]
      refine W.seq (W.chunk ?_)
      simp (disch := first | omega | exact getEq rfl | exact getO0 | exact Nat.le_of_ble_eq_true rfl) [app_growP, app_noneP, plus_N, plus_at0, put_plus0, put_plus1, upd_N, upd_size, q]
      refine W.seq (W.block ?_)
      refine W.seq (W.chunk ?_)
      simp (disch := first | omega | exact getEq rfl | exact getO0 | exact Nat.le_of_ble_eq_true rfl) [c73_o4, app_growP, app_noneP, plus_N, plus_at0, put_plus0, put_plus1, upd_N, upd_size, q]
      refine W.seq (W.chunk ?_)
      simp (disch := first | omega | exact getEq rfl | exact getO0 | exact Nat.le_of_ble_eq_true rfl) [c73_o5, app_growP, app_noneP, plus_N, plus_at0, put_plus0, put_plus1, upd_N, upd_size, q, g0, e0, e0', lm]
      refine W.block ?_
      refine W.use (l2) (by simp (disch := first | omega | exact getEq rfl | exact getO0 | exact Nat.le_of_ble_eq_true rfl) [app_growP, app_noneP, plus_N, plus_at0, put_plus0, put_plus1, upd_N, upd_size, q]) fun s1 H1 hp => ?_
      try simp only [thenW_n, thenW_e, thenW_r, blkW_n, blkW_e, blkW_r, if_true]
      exact kR _ _ hp
open Classical in
theorem c73_ok (J : CallF) (hJ : ∀ a h, J 73 a h = none) (h : Heap) (hm : isMat M = true) {X : Nat → Int} (hX : ∀ x, 0 ≤ X x ∧ X x ≤ mostP) : CallsTo tbl J 73 [.agg (matC M), .agg (sq X), .agg (sq (entS M))] h (if prOk M X 0 then .tup [.agg (sq (prF M X)), .bool true] else .tup [.agg (sq fun _ => 0), .bool false], [], false) := by
  refine Tr.fnv (cf := c73) (e := .ret) (s := T.set (T.set (T.set .leaf [] (.agg (matC M))) [false] (.agg (sq X))) [true] (.agg (sq (entS M)))) (by decide) rfl (hJ _ _) rfl rfl (by split <;> simp [AV.flat, AV.flats, sq_flat]) (by simp) ?_
  have h8 := isMat_n hm
  obtain ⟨l1, l2⟩ := c73_i J h hm hX M.length 0 (by omega)
  rw [oP_0, oP_all] at l1
  rw [oP_0] at l2
  have rp := sq_rep
  have lm := matC_len M
  have lx := sq_len X
  have ly := sq_len (entS M)
  have lz := sq_len fun _ => 0
  have e0 : (matC M)[0]? = some (G M.length) := rfl
  have e0' := getI e0
  refine Tr.w fun s1 H1 hp R kR => ?_
  obtain ⟨rfl, rfl⟩ := hp
  have q : True := trivial
  by_cases c : prOk M X 0
  · have l1 := l1 c
    rw [if_pos c] at kR
    refine W.seq (W.chunk ?_)
    simp (disch := first | omega | exact getEq rfl | exact getO0 | exact Nat.le_of_ble_eq_true rfl) [-List.reduceReplicate, c73_o0, size_mk, get_mk_lt, get_mk_ge, frameOf, Eff.app, Heap.setOwn, q, lm, lx, ly, lz, rp, frameOf]
    refine W.seq (W.chunk ?_)
    simp (disch := first | omega | exact getEq rfl | exact getO0 | exact Nat.le_of_ble_eq_true rfl) [-List.reduceReplicate, c73_o1, size_mk, get_mk_lt, get_mk_ge, frameOf, Eff.app, Heap.setOwn, q, rp]
    refine W.assoc ?_
    refine W.seq (W.chunk ?_)
    simp (disch := first | omega | exact getEq rfl | exact getO0 | exact Nat.le_of_ble_eq_true rfl) [-List.reduceReplicate, c73_o2, size_mk, get_mk_lt, get_mk_ge, frameOf, Eff.app, Heap.setOwn, q, e0, e0', lm]
    refine W.seq (W.block ?_)
    refine W.use (l1) (by simp (disch := first | omega | exact getEq rfl | exact getO0 | exact Nat.le_of_ble_eq_true rfl) [-List.reduceReplicate, size_mk, get_mk_lt, get_mk_ge, frameOf, Eff.app, Heap.setOwn, q, HP, lm, lx, ly, lz]) fun s1 H1 hp => ?_
    obtain ⟨rfl, q⟩ := hp
    try simp only [thenW_n, thenW_e, thenW_r, blkW_n, blkW_e, blkW_r, if_true]
    simp only [HP] at *
    have lf := sq_len (prF M X)
    generalize hcf : sq (prF M X) = cf at *
    generalize hcz : (sq fun _ => 0) = cz at *
    have et : cf.take 64 = cf := List.take_of_length_le (by omega)
    have ep : putAt cz 0 cf = cf := putAt_all _ _ (by omega)
    refine W.seq (W.chunk ?_)
    simp (disch := first | omega | exact getEq rfl | exact getO0 | exact Nat.le_of_ble_eq_true rfl) [-List.reduceReplicate, c73_o20, size_mk, get_mk_lt, get_mk_ge, frameOf, Eff.app, Heap.setOwn, q, et, ep, lf, lz]
    refine W.ret ?_
    try simp only [thenW_n, thenW_e, thenW_r, blkW_n, blkW_e, blkW_r, if_true]
    exact kR _ _ (by simp [T.get, c73, evRess, evRes, loadA, get_mk_ge, takeA, et, lf, one])
  · have l2 := l2 c
    rw [if_neg c] at kR
    refine W.seq (W.chunk ?_)
    simp (disch := first | omega | exact getEq rfl | exact getO0 | exact Nat.le_of_ble_eq_true rfl) [-List.reduceReplicate, c73_o0, size_mk, get_mk_lt, get_mk_ge, frameOf, Eff.app, Heap.setOwn, q, lm, lx, ly, lz, rp, frameOf]
    refine W.seq (W.chunk ?_)
    simp (disch := first | omega | exact getEq rfl | exact getO0 | exact Nat.le_of_ble_eq_true rfl) [-List.reduceReplicate, c73_o1, size_mk, get_mk_lt, get_mk_ge, frameOf, Eff.app, Heap.setOwn, q, rp]
    refine W.assoc ?_
    refine W.seq (W.chunk ?_)
    simp (disch := first | omega | exact getEq rfl | exact getO0 | exact Nat.le_of_ble_eq_true rfl) [-List.reduceReplicate, c73_o2, size_mk, get_mk_lt, get_mk_ge, frameOf, Eff.app, Heap.setOwn, q, e0, e0', lm]
    refine W.seq (W.block ?_)
    refine W.use (l2) (by simp (disch := first | omega | exact getEq rfl | exact getO0 | exact Nat.le_of_ble_eq_true rfl) [-List.reduceReplicate, size_mk, get_mk_lt, get_mk_ge, frameOf, Eff.app, Heap.setOwn, q, HP, lm, lx, ly, lz]) fun s1 H1 hp => ?_
    obtain ⟨⟨f, rfl⟩, q1, q2⟩ := hp
    try simp only [thenW_n, thenW_e, thenW_r, blkW_n, blkW_e, blkW_r, if_true]
    have et : (sq fun _ => 0).take 64 = sq fun _ => 0 := List.take_of_length_le (by rw [lz]; exact Nat.le_refl _)
    exact kR _ _ (by simp [T.get, c73, evRess, evRes, loadA, get_mk_ge, takeA, q1, q2, HP, et, lz, one])
end

end Go.Proofs.Ytjeemgaoonapgaa.Ev
