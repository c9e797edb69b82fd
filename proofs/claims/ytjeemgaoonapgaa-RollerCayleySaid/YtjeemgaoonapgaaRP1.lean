/-
  Of the functions that this law reaches, part 1: what they answer. No condition.
-/
import Derived.Test.YtjeemgaoonapgaaRP0
set_option linter.unusedVariables false
set_option linter.unusedSimpArgs false
namespace Go.Proofs.Ytjeemgaoonapgaa.Ev
open Go Go.AEv
attribute [local simp] evFunc initS evOps_c evTrim_c evSkip_c evExit_c evRet_c evSeq_c evCond_c evBlock_c evDraw_c runOps_n runOps_c exec_n exec_g pure1_c act AOpd.ev T.get T.set T.put evBin evUn forceT_eq forceV_eq forceL_eq evRess evRes one keep runFP_n runFP_c app_none AV.flats AV.flat came_some List.getElem?_cons_zero List.getElem?_cons_succ beqT wrapI idxI tdivI tmodI decT decF ibT ibF inT inF evScope_c if_pos if_neg Cm_some thenW_n thenW_e thenW_r blkW_n blkW_e blkW_r goI kn putAt AV.cells fillA loadA takeA mk Eff.isAll Eff.isNone Eff.commutes Eff.spares okPair apart eqAgg fits LK.fits allEq aveq eqk mmA
section
variable {M : List (List Int)}
def rwOk (M : List (List Int)) (X : Nat → Int) (i j : Nat) : Prop := ∀ j', j ≤ j' → j' < M.length → dt M X i j' M.length ≤ mostP
def prOk (M : List (List Int)) (X : Nat → Int) (i : Nat) : Prop := ∀ i', i ≤ i' → i' < M.length → rwOk M X i' 0
theorem rwOk_s {X : Nat → Int} {i j : Nat} (hj : j < M.length) : rwOk M X i j ↔ dt M X i j M.length ≤ mostP ∧ rwOk M X i (j + 1) := by
  constructor
  · intro h; exact ⟨h j (Nat.le_refl _) hj, fun j' a b => h j' (by omega) b⟩
  · rintro ⟨a, b⟩ j' c d
    by_cases e : j' = j
    · subst e; exact a
    · exact b j' (by omega) d
theorem prOk_s {X : Nat → Int} {i : Nat} (hi : i < M.length) : prOk M X i ↔ rwOk M X i 0 ∧ prOk M X (i + 1) := by
  constructor
  · intro h; exact ⟨h i (Nat.le_refl _) hi, fun j' a b => h j' (by omega) b⟩
  · rintro ⟨a, b⟩ j' c d
    by_cases e : j' = i
    · subst e; exact a
    · exact b j' (by omega) d
def Fail73 (h : Heap) (M : List (List Int)) (X : Nat → Int) : SP := fun s h' => (∃ f, h' = HP h M X f) ∧ s.get [true, true] = .ptr (h.size + 3) 0 64 ∧ s.get [false, false, false] = .bool false
theorem c73_j (J : CallF) (h : Heap) (hm : isMat M = true) {X : Nat → Int} (hX : ∀ x, 0 ≤ X x ∧ X x ≤ mostP) {i : Nat} (hi : i < M.length) : ∀ d j, j + d = M.length →
    (rwOk M X i j → Tr tbl J c73_l1 (fun s h' => h' = HP h M X (oP M X i j 0) ∧ s.get [false, false] = .ptr h.size 0 65 ∧ s.get [true, false] = .ptr (h.size + 1) 0 64 ∧ s.get [false, true] = .ptr (h.size + 2) 0 64 ∧ s.get [true, true] = .ptr (h.size + 3) 0 64 ∧ s.get [true, false, false] = .ptr (h.size + 4) 0 64 ∧ s.get [false, true, false] = G i ∧ s.get [false, false, false, false] = G M.length ∧ s.get [true, false, false, false] = G i ∧ s.get [true, false, true, false] = G M.length ∧ s.get [false, true, true, false] = G j) (.exit 2) (fun s h' => h' = HP h M X (oP M X i M.length 0) ∧ s.get [false, false] = .ptr h.size 0 65 ∧ s.get [true, false] = .ptr (h.size + 1) 0 64 ∧ s.get [false, true] = .ptr (h.size + 2) 0 64 ∧ s.get [true, true] = .ptr (h.size + 3) 0 64 ∧ s.get [true, false, false] = .ptr (h.size + 4) 0 64 ∧ s.get [false, false, false, false] = G M.length ∧ s.get [true, false, false, false] = G i)) ∧
    (¬ rwOk M X i j → Tr tbl J c73_l1 (fun s h' => h' = HP h M X (oP M X i j 0) ∧ s.get [false, false] = .ptr h.size 0 65 ∧ s.get [true, false] = .ptr (h.size + 1) 0 64 ∧ s.get [false, true] = .ptr (h.size + 2) 0 64 ∧ s.get [true, true] = .ptr (h.size + 3) 0 64 ∧ s.get [true, false, false] = .ptr (h.size + 4) 0 64 ∧ s.get [false, true, false] = G i ∧ s.get [false, false, false, false] = G M.length ∧ s.get [true, false, false, false] = G i ∧ s.get [true, false, true, false] = G M.length ∧ s.get [false, true, true, false] = G j) .ret (Fail73 h M X)) := by
  have h8 := isMat_n hm
  have e0 : (matC M)[0]? = some (G M.length) := rfl
  have e0' := getI e0
  have lm := matC_len M
  intro d
  induction d with
  | zero =>
    intro j hj
    obtain rfl : j = M.length := by omega
    refine ⟨fun _ => Tr.out ?_ (by simp), fun c => absurd (fun j' a b => by omega) c⟩
    simp only [HP]
    generalize M.length = n at *
    refine Tr.w fun s1 H1 hp R kR => W.trim ?_
    obtain ⟨rfl, q⟩ := hp
    refine W.seq (W.chunk ?_)
    simp (disch := first|omega|exact zE rfl|exact zO|exact zL rfl) [c73_o6, size_mk, get_mk_lt, get_mk_ge, frameOf, Eff.app, Heap.setOwn, q]
    refine W.seq (W.chunk ?_)
    simp (disch := first|omega|exact zE rfl|exact zO|exact zL rfl) [size_mk, get_mk_lt, get_mk_ge, frameOf, Eff.app, Heap.setOwn, q]
    exact kR _ _ (by simp [T.get, q])
  | succ d ih =>
    intro j hj
    have hjn : j < M.length := by omega
    obtain ⟨ih1, ih2⟩ := ih (j + 1) (by omega)
    obtain ⟨l1, l2⟩ := c73_k J h hm hX hi hjn M.length 0 (by omega) (by show (0 : Int) ≤ mostP; decide)
    rw [rwOk_s hjn]
    by_cases c : dt M X i j M.length ≤ mostP
    · have l1 := l1 c
      rw [oP_k] at l1
      have step : Tr tbl J (.trim [[false, false], [true, false], [false, true], [true, true], [true, false, false], [false, true, false], [false, false, false, false], [true, false, false, false], [true, false, true, false], [false, true, true, false]] c73_b1) (fun s h' => h' = HP h M X (oP M X i j 0) ∧ s.get [false, false] = .ptr h.size 0 65 ∧ s.get [true, false] = .ptr (h.size + 1) 0 64 ∧ s.get [false, true] = .ptr (h.size + 2) 0 64 ∧ s.get [true, true] = .ptr (h.size + 3) 0 64 ∧ s.get [true, false, false] = .ptr (h.size + 4) 0 64 ∧ s.get [false, true, false] = G i ∧ s.get [false, false, false, false] = G M.length ∧ s.get [true, false, false, false] = G i ∧ s.get [true, false, true, false] = G M.length ∧ s.get [false, true, true, false] = G j) .normal (fun s h' => h' = HP h M X (oP M X i (j + 1) 0) ∧ s.get [false, false] = .ptr h.size 0 65 ∧ s.get [true, false] = .ptr (h.size + 1) 0 64 ∧ s.get [false, true] = .ptr (h.size + 2) 0 64 ∧ s.get [true, true] = .ptr (h.size + 3) 0 64 ∧ s.get [true, false, false] = .ptr (h.size + 4) 0 64 ∧ s.get [false, true, false] = G i ∧ s.get [false, false, false, false] = G M.length ∧ s.get [true, false, false, false] = G i ∧ s.get [true, false, true, false] = G M.length ∧ s.get [false, true, true, false] = G ((j + 1 : Nat) : Int)) := by
        simp only [HP] at l1 ⊢
        clear ih1 ih2 l2 ih
        generalize sq (oP M X i (j + 1) 0) = c1 at *
        generalize sq (oP M X i j 0) = c0 at *
        generalize matC M = cm at *
        generalize M.length = n at *
        refine Tr.w fun s1 H1 hp R kR => W.trim ?_
        obtain ⟨rfl, q⟩ := hp
        refine W.seq (W.chunk ?_)
        simp (disch := first|omega|exact zE rfl|exact zO|exact zL rfl) [c73_o6, size_mk, get_mk_lt, get_mk_ge, frameOf, Eff.app, Heap.setOwn, q]
        refine W.seq (W.chunk ?_)
        simp (disch := first|omega|exact zE rfl|exact zO|exact zL rfl) [size_mk, get_mk_lt, get_mk_ge, frameOf, Eff.app, Heap.setOwn, q]
        refine W.seq (W.block ?_)
        refine W.seq (W.chunk ?_)
        simp (disch := first|omega|exact zE rfl|exact zO|exact zL rfl) [c73_o7, size_mk, get_mk_lt, get_mk_ge, frameOf, Eff.app, Heap.setOwn, q]
        refine W.seq (W.chunk ?_)
        simp (disch := first|omega|exact zE rfl|exact zO|exact zL rfl) [c73_o8, size_mk, get_mk_lt, get_mk_ge, frameOf, Eff.app, Heap.setOwn, q, e0, e0', lm]
        refine W.block ?_
        refine W.use (l1) (by simp (disch := first|omega|exact zE rfl|exact zO|exact zL rfl) [size_mk, get_mk_lt, get_mk_ge, frameOf, Eff.app, Heap.setOwn, q]) fun s1 H1 hp => ?_
        obtain ⟨rfl, q⟩ := hp
        try simp only [zW, if_true]
        refine W.chunk ?_
        simp (disch := first|omega|exact zE rfl|exact zO|exact zL rfl) [c73_o18, size_mk, get_mk_lt, get_mk_ge, frameOf, Eff.app, Heap.setOwn, q]
        exact kR _ _ (by simp [T.get, q])
      exact ⟨fun q => Tr.next step (ih1 q.2), fun q => Tr.next step (ih2 (fun r => q ⟨c, r⟩))⟩
    · have l2 := l2 (Int.not_le.1 c)
      refine ⟨fun q => absurd q.1 c, fun _ => Tr.out ?_ (by simp)⟩
      refine Tr.w fun s1 H1 hp R kR => W.trim ?_
      obtain ⟨rfl, q⟩ := hp
      have hl : (HP h M X (oP M X i j 0)).size = h.size + 5 := rfl
      have g0 : (HP h M X (oP M X i j 0)).get h.size = .cells 0 65 (matC M) := by unfold HP; rw [get_mk_ge _ _ _ _ (by omega)]; simp
      generalize HP h M X (oP M X i j 0) = H at *
      generalize matC M = cm at *
      refine W.seq (W.chunk ?_)
      simp (disch := first|omega|exact zE rfl|exact zO|exact zL rfl) [c73_o6, zG, q]
      refine W.seq (W.chunk ?_)
      simp (disch := first|omega|exact zE rfl|exact zO|exact zL rfl) [zG, q]
      refine W.seq (W.block ?_)
      refine W.seq (W.chunk ?_)
      simp (disch := first|omega|exact zE rfl|exact zO|exact zL rfl) [c73_o7, zG, q]
      refine W.seq (W.chunk ?_)
      simp (disch := first|omega|exact zE rfl|exact zO|exact zL rfl) [c73_o8, zG, q, g0, e0, e0', lm]
      refine W.block ?_
      refine W.use (l2) (by simp (disch := first|omega|exact zE rfl|exact zO|exact zL rfl) [zG, q]) fun s1 H1 hp => ?_
      try simp only [zW, if_true]
      exact kR _ _ hp
theorem c73_i (J : CallF) (h : Heap) (hm : isMat M = true) {X : Nat → Int} (hX : ∀ x, 0 ≤ X x ∧ X x ≤ mostP) : ∀ d i, i + d = M.length →
    (prOk M X i → Tr tbl J c73_l2 (fun s h' => h' = HP h M X (oP M X i 0 0) ∧ s.get [false, false] = .ptr h.size 0 65 ∧ s.get [true, false] = .ptr (h.size + 1) 0 64 ∧ s.get [false, true] = .ptr (h.size + 2) 0 64 ∧ s.get [true, true] = .ptr (h.size + 3) 0 64 ∧ s.get [true, false, false] = .ptr (h.size + 4) 0 64 ∧ s.get [false, false, false, false] = G M.length ∧ s.get [true, false, false, false] = G i) (.exit 0) (fun s h' => h' = HP h M X (oP M X M.length 0 0) ∧ s.get [true, true] = .ptr (h.size + 3) 0 64 ∧ s.get [true, false, false] = .ptr (h.size + 4) 0 64)) ∧
    (¬ prOk M X i → Tr tbl J c73_l2 (fun s h' => h' = HP h M X (oP M X i 0 0) ∧ s.get [false, false] = .ptr h.size 0 65 ∧ s.get [true, false] = .ptr (h.size + 1) 0 64 ∧ s.get [false, true] = .ptr (h.size + 2) 0 64 ∧ s.get [true, true] = .ptr (h.size + 3) 0 64 ∧ s.get [true, false, false] = .ptr (h.size + 4) 0 64 ∧ s.get [false, false, false, false] = G M.length ∧ s.get [true, false, false, false] = G i) .ret (Fail73 h M X)) := by
  have h8 := isMat_n hm
  have e0 : (matC M)[0]? = some (G M.length) := rfl
  have e0' := getI e0
  have lm := matC_len M
  intro d
  induction d with
  | zero =>
    intro i hi
    obtain rfl : i = M.length := by omega
    refine ⟨fun _ => Tr.out ?_ (by simp), fun c => absurd (fun j' a b => by omega) c⟩
    simp only [HP]
    generalize M.length = n at *
    refine Tr.w fun s1 H1 hp R kR => W.trim ?_
    obtain ⟨rfl, q⟩ := hp
    refine W.seq (W.chunk ?_)
    simp (disch := first|omega|exact zE rfl|exact zO|exact zL rfl) [c73_o3, size_mk, get_mk_lt, get_mk_ge, frameOf, Eff.app, Heap.setOwn, q]
    refine W.seq (W.chunk ?_)
    simp (disch := first|omega|exact zE rfl|exact zO|exact zL rfl) [size_mk, get_mk_lt, get_mk_ge, frameOf, Eff.app, Heap.setOwn, q]
    exact kR _ _ (by simp [T.get, q])
  | succ d ih =>
    intro i hi
    have hin : i < M.length := by omega
    obtain ⟨ih1, ih2⟩ := ih (i + 1) (by omega)
    obtain ⟨l1, l2⟩ := c73_j J h hm hX hin M.length 0 (by omega)
    rw [prOk_s hin]
    by_cases c : rwOk M X i 0
    · have l1 := l1 c
      rw [oP_j hm] at l1
      have step : Tr tbl J (.trim [[false, false], [true, false], [false, true], [true, true], [true, false, false], [false, false, false, false], [true, false, false, false]] c73_b2) (fun s h' => h' = HP h M X (oP M X i 0 0) ∧ s.get [false, false] = .ptr h.size 0 65 ∧ s.get [true, false] = .ptr (h.size + 1) 0 64 ∧ s.get [false, true] = .ptr (h.size + 2) 0 64 ∧ s.get [true, true] = .ptr (h.size + 3) 0 64 ∧ s.get [true, false, false] = .ptr (h.size + 4) 0 64 ∧ s.get [false, false, false, false] = G M.length ∧ s.get [true, false, false, false] = G i) .normal (fun s h' => h' = HP h M X (oP M X (i + 1) 0 0) ∧ s.get [false, false] = .ptr h.size 0 65 ∧ s.get [true, false] = .ptr (h.size + 1) 0 64 ∧ s.get [false, true] = .ptr (h.size + 2) 0 64 ∧ s.get [true, true] = .ptr (h.size + 3) 0 64 ∧ s.get [true, false, false] = .ptr (h.size + 4) 0 64 ∧ s.get [false, false, false, false] = G M.length ∧ s.get [true, false, false, false] = G ((i + 1 : Nat) : Int)) := by
        simp only [HP] at l1 ⊢
        clear ih1 ih2 l2 ih
        generalize sq (oP M X (i + 1) 0 0) = c1 at *
        generalize sq (oP M X i 0 0) = c0 at *
        generalize matC M = cm at *
        generalize M.length = n at *
        refine Tr.w fun s1 H1 hp R kR => W.trim ?_
        obtain ⟨rfl, q⟩ := hp
        refine W.seq (W.chunk ?_)
        simp (disch := first|omega|exact zE rfl|exact zO|exact zL rfl) [c73_o3, size_mk, get_mk_lt, get_mk_ge, frameOf, Eff.app, Heap.setOwn, q]
        refine W.seq (W.chunk ?_)
        simp (disch := first|omega|exact zE rfl|exact zO|exact zL rfl) [size_mk, get_mk_lt, get_mk_ge, frameOf, Eff.app, Heap.setOwn, q]
        refine W.seq (W.block ?_)
        refine W.seq (W.chunk ?_)
        simp (disch := first|omega|exact zE rfl|exact zO|exact zL rfl) [c73_o4, size_mk, get_mk_lt, get_mk_ge, frameOf, Eff.app, Heap.setOwn, q]
        refine W.seq (W.chunk ?_)
        simp (disch := first|omega|exact zE rfl|exact zO|exact zL rfl) [c73_o5, size_mk, get_mk_lt, get_mk_ge, frameOf, Eff.app, Heap.setOwn, q, e0, e0', lm]
        refine W.block ?_
        refine W.use (l1) (by simp (disch := first|omega|exact zE rfl|exact zO|exact zL rfl) [size_mk, get_mk_lt, get_mk_ge, frameOf, Eff.app, Heap.setOwn, q]) fun s1 H1 hp => ?_
        obtain ⟨rfl, q⟩ := hp
        try simp only [zW, if_true]
        refine W.chunk ?_
        simp (disch := first|omega|exact zE rfl|exact zO|exact zL rfl) [c73_o19, size_mk, get_mk_lt, get_mk_ge, frameOf, Eff.app, Heap.setOwn, q]
        exact kR _ _ (by simp [T.get, q])
      exact ⟨fun q => Tr.next step (ih1 q.2), fun q => Tr.next step (ih2 (fun r => q ⟨c, r⟩))⟩
    · have l2 := l2 c
      refine ⟨fun q => absurd q.1 c, fun _ => Tr.out ?_ (by simp)⟩
      refine Tr.w fun s1 H1 hp R kR => W.trim ?_
      obtain ⟨rfl, q⟩ := hp
      have g0 : (HP h M X (oP M X i 0 0)).get h.size = .cells 0 65 (matC M) := by unfold HP; rw [get_mk_ge _ _ _ _ (by omega)]; simp
      generalize HP h M X (oP M X i 0 0) = H at *
      generalize matC M = cm at *
      refine W.seq (W.chunk ?_)
      simp (disch := first|omega|exact zE rfl|exact zO|exact zL rfl) [c73_o3, zG, q]
      refine W.seq (W.chunk ?_)
      simp (disch := first|omega|exact zE rfl|exact zO|exact zL rfl) [zG, q]
      refine W.seq (W.block ?_)
      refine W.seq (W.chunk ?_)
      simp (disch := first|omega|exact zE rfl|exact zO|exact zL rfl) [c73_o4, zG, q]
      refine W.seq (W.chunk ?_)
      simp (disch := first|omega|exact zE rfl|exact zO|exact zL rfl) [c73_o5, zG, q, g0, e0, e0', lm]
      refine W.block ?_
      refine W.use (l2) (by simp (disch := first|omega|exact zE rfl|exact zO|exact zL rfl) [zG, q]) fun s1 H1 hp => ?_
      try simp only [zW, if_true]
      exact kR _ _ hp
open Classical in
theorem c73_ok (J : CallF) (hJ : ∀ a h, J 73 a h = none) (h : Heap) (hm : isMat M = true) {X : Nat → Int} (hX : ∀ x, 0 ≤ X x ∧ X x ≤ mostP) : CallsTo tbl J 73 [.agg (matC M), .agg (sq X), .agg (sq (entS M))] h (if prOk M X 0 then .tup [.agg (sq (prF M X)), .bool true] else .tup [.agg (sq fun _ => 0), .bool false], [], false) := by
  refine Tr.fnv (cf := c73) (e := .ret) (s := T.set (T.set (T.set .leaf [] (.agg (matC M))) [false] (.agg (sq X))) [true] (.agg (sq (entS M)))) (by decide) rfl (hJ _ _) rfl rfl (by split <;> simp [AV.flat, AV.flats, sq_flat]) (by simp) ?_
  have h8 := isMat_n hm
  obtain ⟨l1, l2⟩ := c73_i J h hm hX M.length 0 (by omega)
  rw [oP_0, oP_all] at l1
  rw [oP_0] at l2
  have rp := sq_rep
  have lm := matC_len M
  have lx := sq_len X
  have ly := sq_len (entS M)
  have lz := sq_len fun _ => 0
  have e0 : (matC M)[0]? = some (G M.length) := rfl
  have e0' := getI e0
  refine Tr.w fun s1 H1 hp R kR => ?_
  obtain ⟨rfl, rfl⟩ := hp
  have q : True := trivial
  by_cases c : prOk M X 0
  · have l1 := l1 c
    rw [if_pos c] at kR
    refine W.seq (W.chunk ?_)
    simp (disch := first|omega|exact zE rfl|exact zO|exact zL rfl) [-List.reduceReplicate, c73_o0, size_mk, get_mk_lt, get_mk_ge, frameOf, Eff.app, Heap.setOwn, q, lm, lx, ly, lz, rp, frameOf]
    refine W.seq (W.chunk ?_)
    simp (disch := first|omega|exact zE rfl|exact zO|exact zL rfl) [-List.reduceReplicate, c73_o1, size_mk, get_mk_lt, get_mk_ge, frameOf, Eff.app, Heap.setOwn, q, rp]
    refine W.assoc ?_
    refine W.seq (W.chunk ?_)
    simp (disch := first|omega|exact zE rfl|exact zO|exact zL rfl) [-List.reduceReplicate, c73_o2, size_mk, get_mk_lt, get_mk_ge, frameOf, Eff.app, Heap.setOwn, q, e0, e0', lm]
    refine W.seq (W.block ?_)
    refine W.use (l1) (by simp (disch := first|omega|exact zE rfl|exact zO|exact zL rfl) [-List.reduceReplicate, size_mk, get_mk_lt, get_mk_ge, frameOf, Eff.app, Heap.setOwn, q, HP, lm, lx, ly, lz]) fun s1 H1 hp => ?_
    obtain ⟨rfl, q⟩ := hp
    try simp only [zW, if_true]
    simp only [HP] at *
    have lf := sq_len (prF M X)
    generalize hcf : sq (prF M X) = cf at *
    generalize hcz : (sq fun _ => 0) = cz at *
    have et : cf.take 64 = cf := List.take_of_length_le (by omega)
    have ep : putAt cz 0 cf = cf := putAt_all _ _ (by omega)
    refine W.seq (W.chunk ?_)
    simp (disch := first|omega|exact zE rfl|exact zO|exact zL rfl) [-List.reduceReplicate, c73_o20, size_mk, get_mk_lt, get_mk_ge, frameOf, Eff.app, Heap.setOwn, q, et, ep, lf, lz]
    refine W.ret ?_
    try simp only [zW, if_true]
    exact kR _ _ (by simp [T.get, c73, evRess, evRes, loadA, get_mk_ge, takeA, et, lf, one])
  · have l2 := l2 c
    rw [if_neg c] at kR
    refine W.seq (W.chunk ?_)
    simp (disch := first|omega|exact zE rfl|exact zO|exact zL rfl) [-List.reduceReplicate, c73_o0, size_mk, get_mk_lt, get_mk_ge, frameOf, Eff.app, Heap.setOwn, q, lm, lx, ly, lz, rp, frameOf]
    refine W.seq (W.chunk ?_)
    simp (disch := first|omega|exact zE rfl|exact zO|exact zL rfl) [-List.reduceReplicate, c73_o1, size_mk, get_mk_lt, get_mk_ge, frameOf, Eff.app, Heap.setOwn, q, rp]
    refine W.assoc ?_
    refine W.seq (W.chunk ?_)
    simp (disch := first|omega|exact zE rfl|exact zO|exact zL rfl) [-List.reduceReplicate, c73_o2, size_mk, get_mk_lt, get_mk_ge, frameOf, Eff.app, Heap.setOwn, q, e0, e0', lm]
    refine W.seq (W.block ?_)
    refine W.use (l2) (by simp (disch := first|omega|exact zE rfl|exact zO|exact zL rfl) [-List.reduceReplicate, size_mk, get_mk_lt, get_mk_ge, frameOf, Eff.app, Heap.setOwn, q, HP, lm, lx, ly, lz]) fun s1 H1 hp => ?_
    obtain ⟨⟨f, rfl⟩, q1, q2⟩ := hp
    try simp only [zW, if_true]
    have et : (sq fun _ => 0).take 64 = sq fun _ => 0 := List.take_of_length_le (by rw [lz]; exact Nat.le_refl _)
    exact kR _ _ (by simp [T.get, c73, evRess, evRes, loadA, get_mk_ge, takeA, q1, q2, HP, et, lz, one])
end
structure A79 where
  b : Nat
  o : Nat
  n : Nat
  v : Nat
  g : Nat
  cs : List AV
def Ok79 (a : A79) (h : Heap) : Prop := h.get a.b = .cells a.g a.v a.cs ∧ ((a.cs.drop a.o).take a.n).length = a.n ∧ 0 < a.n ∧ a.n ≤ 1000
theorem c79_ok (J : CallF) (hJ : ∀ a h, J 79 a h = none) (h : Heap) (a : A79) (ha : Ok79 a h) : CallsTo tbl J 79 [.slice a.b a.o a.n a.v] h (.slice h.size 0 a.n a.n, [.cells 1 a.n ((a.cs.drop a.o).take a.n)], false) := by
  obtain ⟨b, o, n, v, g, cs⟩ := a
  obtain ⟨hg, hl, h0, hn⟩ := ha
  simp only at hg hl h0 hn ⊢
  refine Tr.fnh (cf := c79) (e := .ret) (s := T.set .leaf [] (.slice b o n v)) (by decide) rfl (hJ _ _) rfl rfl rfl (by simp) ?_
  have hb := get_lt hg (by simp)
  generalize hL : (cs.drop o).take n = L at *
  have n0 : ¬ n = 0 := by omega
  have hel : ∀ own, elems ⟨h.get, h.size, own⟩ 1 (.slice b o n v) = some (n, L) := fun own => by
    have e : Heap.get ⟨h.get, h.size, own⟩ b = .cells g v cs := by rw [get_mk_lt _ _ _ _ hb]; exact hg
    simp only [elems, e, if_true, Nat.mul_one, hL]
    rw [if_pos hl]
  refine Tr.w fun s1 H1 hp R kR => ?_
  obtain ⟨rfl, rfl⟩ := hp
  have q : True := trivial
  refine W.seq (W.chunk ?_)
  simp (disch := first|omega|exact zE rfl|exact zO|exact zL rfl) [c79_o0, size_mk, get_mk_lt, get_mk_ge, frameOf, Eff.app, Heap.setOwn, q]
  refine W.assoc ?_
  refine W.seq (W.chunk ?_)
  simp (disch := first|omega|exact zE rfl|exact zO|exact zL rfl) [c79_o1, size_mk, get_mk_lt, get_mk_ge, frameOf, Eff.app, Heap.setOwn, q, eqk]
  refine W.seq (W.chunk ?_)
  simp (disch := first|omega|exact zE rfl|exact zO|exact zL rfl) [c79_o2, size_mk, get_mk_lt, get_mk_ge, frameOf, Eff.app, Heap.setOwn, q]
  refine W.seq (W.chunk ?_)
  simp (disch := first|omega|exact zE rfl|exact zO|exact zL rfl) [c79_o3, size_mk, get_mk_lt, get_mk_ge, frameOf, Eff.app, Heap.setOwn, q, hel, appA, n0, frameOf, rdOf]
  refine W.ret ?_
  try simp only [zW, if_true]
  exact kR _ _ (by simp [T.get, c79, evRess, evRes, one, hl])
def Pre79 (a : A79) (args : List AV) (h : Heap) : Prop := Ok79 a h ∧ args = [.slice a.b a.o a.n a.v]
def Post79 (a : A79) (h : Heap) (v : AV) (own : List AObj) : Prop := v = .slice h.size 0 a.n a.n ∧ own = [.cells 1 a.n ((a.cs.drop a.o).take a.n)]
noncomputable def T12 : CallF := addK tbl T11 79 Pre79 Post79
theorem t12 : Sound Go.Proofs.Try.prog T12 := Sound.addK follows ok t11 (by decide) _ _
abbrev K79 (J : CallF) : Prop := ∀ (h : Heap) (a : A79), Ok79 a h → J 79 [.slice a.b a.o a.n a.v] h = some (.slice h.size 0 a.n a.n, [.cells 1 a.n ((a.cs.drop a.o).take a.n)], false)
theorem k79 : K79 T12 := fun h a ha => by
  obtain ⟨v, own, e, rfl, rfl⟩ := addK_some (tbl := tbl) (I := T11) (f := 79) (Pre := Pre79) (Post := Post79) (fun a args h hp => by
    obtain ⟨ha, rfl⟩ := hp
    exact ⟨_, _, c79_ok T11 (fun _ _ => by simp (disch := decide) only [T11, T10, T9, T8, T7, T6, T5, T4, T3, T2, T1, R21, R20, R19, R18, R17, R16, R15, R14, R13, R12, R11, R10, R9, R8, R7, R6, R5, R4, R3, R2, R1, addI_ne, addX_ne, addV_ne, addK_ne]; rfl) h a ha, rfl, rfl⟩) a _ h ⟨ha, rfl⟩
  exact e
theorem evDraw_k (r : Rec) (k : Nat) (os : List COper) (ps : List (Nat × Nat)) (anc : List (List Nat)) (s : T) (h : Heap) : evCode r (.draw k os ps anc) s h = match runFP r.call h os s (h.plus (List.replicate k .hole)) with
    | some (s', h', fps) => if ps.all (fun p => okPair h.size (fps.getD p.1 {}) (fps.getD p.2 {})) && (fps.all (fun f => !f.eff.isAll) || bars anc fps) then some (.normal, s', h') else none
    | none => none := rfl
theorem fill_plus0 (h : Heap) (b : Nat) (hb : h.size = b) (x : AObj) (xs : List AObj) : Eff.app (.fill b x) (h.plus (.hole :: xs)) = some (h.plus (x :: xs)) := by
  subst hb
  have h1 : ¬ h.size < h.N := by unfold Heap.size; omega
  have h2 : h.size - h.N = h.own.length := by unfold Heap.size; omega
  simp only [Eff.app, Heap.plus, h1, if_false, h2]
  rw [List.getElem?_append_right (by omega), Nat.sub_self]
  simp only [List.getElem?_cons_zero, Heap.setOwn_eq, h2]
  rw [List.set_append_right _ _ (by omega), Nat.sub_self]
  rfl
theorem fill_plus1 (h : Heap) (b : Nat) (hb : h.size + 1 = b) (x y : AObj) (xs : List AObj) : Eff.app (.fill b x) (h.plus (y :: .hole :: xs)) = some (h.plus (y :: x :: xs)) := by
  have := fill_plus0 (h.plus [y]) b (by rw [plus_size]; exact hb) x xs
  rwa [plus_plus, plus_plus] at this
theorem TB.appD {H0 H : Heap} {x : AV} {css : List (List AV)} (t : TB H0 H x css) (L : List AV) (hn : css.length ≤ 1000000) :
    ∃ x1 e H2, appA (H.plus [.cells 1 1 [.slice (H.size + 2) 0 L.length L.length], .hole, .cells 1 L.length L]) H.size (some 1) 1 24 1 [.slice (H.size + 2) 0 L.length L.length] x = some (x1, e) ∧ Eff.app e (H.plus [.cells 1 1 [.slice (H.size + 2) 0 L.length L.length], .hole, .cells 1 L.length L]) = some H2 ∧ TB H0 H2 x1 (css ++ [L]) ∧ ((∃ i X, e = .fill i X) ∨ (∃ b v g vs, e = .ext b v g vs)) := by
  obtain ⟨rs, lv, hl, hr⟩ := t.r
  generalize hvv : AV.slice (H.size + 2) 0 L.length L.length = r
  have old : ∀ (X : AObj), (H.plus [.cells 1 1 [r], X, .cells 1 L.length L]).get (H.size + 2) = .cells 1 L.length L := fun X => by
    rw [plus_ge _ _ _ (by omega), show H.size + 2 - H.size = 2 by omega]; rfl
  have szz : ∀ (X : AObj), (H.plus [.cells 1 1 [r], X, .cells 1 L.length L]).size = H.size + 3 := fun X => by rw [plus_size]; rfl
  rcases lv with ⟨rfl, rfl⟩ | ⟨b, rfl, g, hN⟩
  · have hc : css = [] := List.length_eq_zero_iff.1 hl.symm
    subst hc
    refine ⟨.slice (H.size + 1) 0 1 1, .fill (H.size + 1) (.cells 1 1 [r]), H.plus [.cells 1 1 [r], .cells 1 1 [r], .cells 1 L.length L], rfl, fill_plus1 _ _ rfl _ _ _, ⟨t.k.trans (Kp.plus _ _), fun q hq => ?_, [r], .inr ⟨H.size + 1, rfl, ?_, ?_⟩, rfl, fun i r' hi => ?_⟩, .inl ⟨_, _, rfl⟩⟩
    · cases hq; have := t.k.size; omega
    · rw [plus_ge _ _ _ (by omega), show H.size + 1 - H.size = 1 by omega]; rfl
    · show H.N ≤ H.size + 1; unfold Heap.size; omega
    · have hi0 : i = 0 := by
        have := (List.getElem?_eq_some_iff.1 hi).1
        simpa using this
      subst hi0
      simp only [List.getElem?_cons_zero, Option.some.injEq] at hi
      subst hi
      exact ⟨L, H.size + 2, rfl, hvv.symm, old _, (by simp [blk]), by have := t.k.size; omega⟩
  · have hlt := get_lt g (by simp)
    have hb2 : (H.plus [.cells 1 1 [r], .hole, .cells 1 L.length L]).get b = .cells 1 rs.length rs := by rw [plus_lt _ _ _ hlt, g]
    have hN' : (H.plus [.cells 1 1 [r], .hole, .cells 1 L.length L]).N ≤ b := by rw [plus_N]; exact hN
    have lb : ∀ q, q ≠ b → ((H.plus [.cells 1 1 [r], .hole, .cells 1 L.length L]).upd b (.cells 1 (rs.length + 1) (rs ++ [r]))).get q = (H.plus [.cells 1 1 [r], .hole, .cells 1 L.length L]).get q := fun q hq => upd_ne _ _ _ _ hN' (fun e => hq e.symm)
    refine ⟨.slice b 0 (rs.length + 1) (rs.length + 1), .ext b rs.length 1 [r], (H.plus [.cells 1 1 [r], .hole, .cells 1 L.length L]).upd b (.cells 1 (rs.length + 1) (rs ++ [r])), ?_, ?_, ⟨?_, fun q hq => t.x0 q hq, rs ++ [r], .inr ⟨b, by simp, ?_, by rw [upd_N]; exact hN'⟩, by simp [hl], fun i r' hi => ?_⟩, .inr ⟨_, _, _, _, rfl⟩⟩
    · simp only [appA, Nat.mul_one, Nat.one_mul]
      rw [if_neg (by decide), if_pos ⟨trivial, by simp, by omega⟩]
    · exact ext_gen _ b rs.length 1 rs [r] hN' hb2 rfl
    · exact (t.k.trans (Kp.plus (M := fun _ => False) _ _)).late (Kp.upd (M := fun q => q = b) _ _ _ hN' rfl) (fun q hq => by rw [hq]; exact t.x0 b rfl)
    · rw [upd_same _ _ _ hN' (by rw [szz]; omega)]; simp
    · by_cases hi' : i < rs.length
      · rw [List.getElem?_append_left hi'] at hi
        obtain ⟨l', b', h1, h2', h3, h4, h5⟩ := hr i r' hi
        have hne : b' ≠ b := fun e => h4 (by rw [e]; rfl)
        exact ⟨l', b', by rw [List.getElem?_append_left (by omega)]; exact h1, h2', by rw [lb _ hne, plus_lt _ _ _ (get_lt h3 (by simp))]; exact h3, h4, h5⟩
      · rw [List.getElem?_append_right (by omega)] at hi
        have hi0 : i - rs.length = 0 := by
          rcases Nat.eq_zero_or_pos (i - rs.length) with e | e
          · exact e
          · rw [List.getElem?_eq_none (by simp; omega)] at hi; cases hi
        rw [hi0] at hi
        simp only [List.getElem?_cons_zero, Option.some.injEq] at hi
        subst hi
        exact ⟨L, H.size + 2, by rw [List.getElem?_append_right (by omega), ← hl, hi0]; rfl, hvv.symm, by rw [lb _ (by omega)]; exact old _, (by intro e; cases e; omega), by have := t.k.size; omega⟩
def rwL (X : Nat → Int) (n i : Nat) : List Int := lf (fun j => X (i * 8 + j)) n
theorem sq_row (X : Nat → Int) {n i : Nat} (hi : i < 8) (hn : n ≤ 8) : ((sq X).drop (i * 8)).take n = gs (rwL X n i) := by
  apply List.ext_getElem?
  intro j
  by_cases hj : j < n
  · rw [List.getElem?_take, if_pos hj, List.getElem?_drop, sq_at _ (by omega)]
    show _ = (gs (lf (fun j => X (i * 8 + j)) n))[j]?
    rw [gl_at _ hj]
  · rw [List.getElem?_take, if_neg hj, List.getElem?_eq_none (by simp [rwL, lf_len]; omega)]
section
variable {M : List (List Int)}
theorem n74_5 (J : CallF) (k79 : K79 J) {H H2 : Heap} {bm bx n i : Nat} {X : Nat → Int} {x x1 : AV} {e : Eff} (gm : H.get bm = .cells 0 65 (matC M)) (e0 : (matC M)[0]? = some (G n)) (gx : H.get bx = .cells 0 64 (sq X)) (hi : i < n) (hn : n ≤ 8)
    (q1 : appA (H.plus [.cells 1 1 [.slice (H.size + 2) 0 n n], .hole, .cells 1 n (gs (rwL X n i))]) H.size (some 1) 1 24 1 [.slice (H.size + 2) 0 n n] x = some (x1, e)) (q2 : Eff.app e (H.plus [.cells 1 1 [.slice (H.size + 2) 0 n n], .hole, .cells 1 n (gs (rwL X n i))]) = some H2) (q3 : (∃ i X, e = .fill i X) ∨ (∃ b v g vs, e = .ext b v g vs)) :
    Tr tbl J c74_o5 (fun s h => h = H ∧ s.get [true] = .ptr bm 0 65 ∧ s.get [false, false] = .ptr bx 0 64 ∧ s.get [false, true] = x ∧ s.get [true, true] = G i ∧ s.get [true, false, false] = G n ∧ s.get [false, true, false] = G i) .normal (fun s h => h = H2 ∧ s.get [true] = .ptr bm 0 65 ∧ s.get [false, false] = .ptr bx 0 64 ∧ s.get [false, true] = x1 ∧ s.get [true, false, false] = G n ∧ s.get [false, true, false] = G i) := by
  have e0' := getI e0
  have lm := matC_len M
  have gm' := plus_keep [.hole, .hole] gm (by simp)
  have gx' := plus_keep [.hole, .hole] gx (by simp)
  have lr : (gs (rwL X n i)).length = n := by simp [rwL, lf_len]
  have k := k79 (H.plus [.hole, .hole]) ⟨bx, i * 8, n, 64, 0, sq X⟩ ⟨gx', by simp only; rw [sq_row X (by omega) hn, lr], by simp only; omega, by simp only; omega⟩
  simp only at k
  rw [sq_row X (by omega) hn, plus_size] at k
  have f0 := fill_plus0 H H.size rfl (.cells 1 1 [.slice (H.size + 2) 0 n n]) [.hole, .cells 1 n (gs (rwL X n i))]
  have f1 : (H.plus [.cells 1 1 [.slice (H.size + 2) 0 n n], .hole, .cells 1 n (gs (rwL X n i))]).get H.size = .cells 1 1 [.slice (H.size + 2) 0 n n] := plus_at0 _ _ _ _ rfl
  have sz : [AObj.hole, .hole].length = 2 := rfl
  rw [sz] at k
  generalize gs (rwL X n i) = L at *
  generalize sq X = cx at *
  generalize matC M = cm at *
  refine Tr.w fun s1 H1 hp R kR => ?_
  obtain ⟨rfl, q⟩ := hp
  rcases q3 with ⟨i', X', rfl⟩ | ⟨b', v', g', vs', rfl⟩
  all_goals
    refine W.chunk ?_
    simp (disch := first|omega|exact zE rfl|exact zO|exact zL rfl) [-evDraw_c, c74_o5, zG, q, evDraw_k, gm', gx', e0, e0', lm, k, bounds, plus_plus, plus_size, f0, f1, elems, rdOf, q1, q2]
    exact kR _ _ (by simp [T.get, q])
theorem rwsL_s (X : Nat → Int) (n i : Nat) : ((List.range (i + 1)).map fun i => gs (rwL X n i)) = ((List.range i).map fun i => gs (rwL X n i)) ++ [gs (rwL X n i)] := by simp [List.range_succ]
theorem c74_l (J : CallF) (k79 : K79 J) {H0 : Heap} {bm bx : Nat} {X : Nat → Int} (hm : isMat M = true) (gm : H0.get bm = .cells 0 65 (matC M)) (gx : H0.get bx = .cells 0 64 (sq X)) :
    Tr tbl J c74_l0 (fun s h => h = H0 ∧ s.get [true] = .ptr bm 0 65 ∧ s.get [false, false] = .ptr bx 0 64 ∧ s.get [false, true] = .nils ∧ s.get [true, false, false] = G M.length ∧ s.get [false, true, false] = G ((0 : Nat) : Int)) (.exit 0) (fun s h => ∃ x, TB H0 h x ((List.range M.length).map fun i => gs (rwL X M.length i)) ∧ s.get [false, true] = x) := by
  have h8 := isMat_n hm
  refine Tr.pre (P := fun s h => ∃ x, TB H0 h x ((List.range 0).map fun i => gs (rwL X M.length i)) ∧ s.get [true] = .ptr bm 0 65 ∧ s.get [false, false] = .ptr bx 0 64 ∧ s.get [false, true] = x ∧ s.get [true, false, false] = G M.length ∧ s.get [false, true, false] = G ((0 : Nat) : Int)) (fun s h q => ⟨.nils, by rw [q.1]; exact TB.nil H0, q.2⟩) ?_
  refine Tr.rounds (P := fun i s h => ∃ x, TB H0 h x ((List.range i).map fun i => gs (rwL X M.length i)) ∧ s.get [true] = .ptr bm 0 65 ∧ s.get [false, false] = .ptr bx 0 64 ∧ s.get [false, true] = x ∧ s.get [true, false, false] = G M.length ∧ s.get [false, true, false] = G i) (M := M.length) (fun i hi => ?_) ?_ (by simp) 0 (by omega)
  · refine Tr.w fun s1 H1 hp R kR => W.trim ?_
    obtain ⟨x, tb, q⟩ := hp
    have lr : (gs (rwL X M.length i)).length = M.length := by simp [rwL, lf_len]
    obtain ⟨x1, e, H2, q1, q2, tb2, q3⟩ := tb.appD (gs (rwL X M.length i)) (by simp; omega)
    rw [← rwsL_s] at tb2
    rw [lr] at q1 q2
    have t := n74_5 J k79 (tb.k.at gm (by simp) id) rfl (tb.k.at gx (by simp) id) hi h8.2 q1 q2 q3
    clear tb
    generalize M.length = n at *
    refine W.seq (W.chunk ?_)
    simp (disch := first|omega|exact zE rfl|exact zO|exact zL rfl) [c74_o3, zG, q]
    refine W.seq (W.chunk ?_)
    simp (disch := first|omega|exact zE rfl|exact zO|exact zL rfl) [zG, q]
    refine W.seq (W.block ?_)
    refine W.seq (W.chunk ?_)
    simp (disch := first|omega|exact zE rfl|exact zO|exact zL rfl) [c74_o4, zG, q]
    refine W.use (t) (by simp (disch := first|omega|exact zE rfl|exact zO|exact zL rfl) [zG, q]) fun s1 H1 hp => ?_
    obtain ⟨rfl, q⟩ := hp
    try simp only [zW, if_true]
    refine W.chunk ?_
    simp (disch := first|omega|exact zE rfl|exact zO|exact zL rfl) [c74_o6, zG, q]
    exact kR _ _ ⟨_, tb2, by simp [T.get, q]⟩
  · refine Tr.w fun s1 H1 hp R kR => W.trim ?_
    obtain ⟨x, tb, q⟩ := hp
    refine W.seq (W.chunk ?_)
    simp (disch := first|omega|exact zE rfl|exact zO|exact zL rfl) [c74_o3, zG, q]
    refine W.seq (W.chunk ?_)
    simp (disch := first|omega|exact zE rfl|exact zO|exact zL rfl) [zG, q]
    exact kR _ _ ⟨_, tb, by simp [T.get, q]⟩
theorem TB.fr0 {h h' : Heap} {x : AV} {L : List (List AV)} (t : TB (frameOf h) h' x L) : TB h (h.plus (if (one [x]).flat then [] else h'.own)) x L := by
  split
  · rename_i hf
    obtain ⟨rs, lv, hl, hr⟩ := t.r
    rcases lv with ⟨rfl, rfl⟩ | ⟨b, rfl, g, n⟩
    · have : L = [] := List.length_eq_zero_iff.1 hl.symm
      subst this
      have : h.plus [] = h := by simp [Heap.plus]
      rw [this]; exact TB.nil h
    · simp [one, AV.flat, AV.flats] at hf
  · exact t.fr
theorem TB.up {h : Heap} {X : List AObj} {H' : Heap} {w : AV} {L : List (List AV)} (t : TB ⟨h.get, h.size, X⟩ H' w L) : TB (frameOf h) H' w L := by
  obtain ⟨rs, lv, hl, hr⟩ := t.r
  have ks := (Kp.plus (M := fun _ => False) (frameOf h) X).size
  exact ⟨(Kp.plus (frameOf h) X).trans t.k, fun q hq => Nat.le_trans ks (t.x0 q hq), rs, lv, hl, fun i r hi => by
    obtain ⟨cs, b, h1, h2, h3, h4, h5⟩ := hr i r hi
    exact ⟨cs, b, h1, h2, h3, h4, Nat.le_trans ks h5⟩⟩
theorem c74_ok (J : CallF) (k79 : K79 J) (hJ : ∀ a h, J 74 a h = none) (h : Heap) (hm : isMat M = true) (X : Nat → Int) : ∃ v own, CallsTo tbl J 74 [.agg (matC M), .agg (sq X)] h (v, own, false) ∧ TB h (h.plus own) v ((List.range M.length).map fun i => gs (rwL X M.length i)) := by
  refine Tr.fny (cf := c74) (e := .ret) (s := T.set (T.set .leaf [] (.agg (matC M))) [false] (.agg (sq X))) (by decide) rfl (hJ _ _) rfl rfl (by simp) ?_
  have h8 := isMat_n hm
  have lm := matC_len M
  have lx := sq_len X
  have e0 : (matC M)[0]? = some (G M.length) := rfl
  have e0' := getI e0
  have gm : Heap.get ⟨h.get, h.size, [.cells 0 65 (matC M), .cells 0 64 (sq X)]⟩ h.size = .cells 0 65 (matC M) := by rw [get_mk_ge _ _ _ _ (by omega)]; simp
  have gx : Heap.get ⟨h.get, h.size, [.cells 0 65 (matC M), .cells 0 64 (sq X)]⟩ (h.size + 1) = .cells 0 64 (sq X) := by rw [get_mk_ge _ _ _ _ (by omega)]; simp
  have lo := c74_l J k79 hm gm gx
  refine Tr.w fun s1 H1 hp R kR => ?_
  obtain ⟨rfl, rfl⟩ := hp
  have q : True := trivial
  refine W.seq (W.chunk ?_)
  simp (disch := first|omega|exact zE rfl|exact zO|exact zL rfl) [c74_o0, size_mk, get_mk_lt, get_mk_ge, frameOf, Eff.app, Heap.setOwn, q, lm, lx, frameOf]
  refine W.seq (W.chunk ?_)
  simp (disch := first|omega|exact zE rfl|exact zO|exact zL rfl) [c74_o1, size_mk, get_mk_lt, get_mk_ge, frameOf, Eff.app, Heap.setOwn, q]
  refine W.assoc ?_
  refine W.seq (W.chunk ?_)
  simp (disch := first|omega|exact zE rfl|exact zO|exact zL rfl) [c74_o2, size_mk, get_mk_lt, get_mk_ge, frameOf, Eff.app, Heap.setOwn, q, e0, e0', lm]
  refine W.seq (W.block ?_)
  refine W.use (lo) (by simp (disch := first|omega|exact zE rfl|exact zO|exact zL rfl) [size_mk, get_mk_lt, get_mk_ge, frameOf, Eff.app, Heap.setOwn, q]) fun s1 H1 hp => ?_
  obtain ⟨x, tb, q⟩ := hp
  try simp only [zW, if_true]
  refine W.seq (W.chunk ?_)
  simp (disch := first|omega|exact zE rfl|exact zO|exact zL rfl) [c74_o7, size_mk, get_mk_lt, get_mk_ge, frameOf, Eff.app, Heap.setOwn, q]
  refine W.ret ?_
  try simp only [zW, if_true]
  exact kR _ _ ⟨[x], by simp [T.get, c74, evRess, evRes, q], tb.up.fr0⟩
end
def Pre72 (M : List (List Int)) (args : List AV) (h : Heap) : Prop := isMat M = true ∧ args = [.agg (matC M)]
def Post72 (M : List (List Int)) (h : Heap) (v : AV) (own : List AObj) : Prop := v = .agg (sq (onF M.length)) ∧ own = []
noncomputable def T13 : CallF := addK tbl T12 72 Pre72 Post72
theorem t13 : Sound Go.Proofs.Try.prog T13 := Sound.addK follows ok t12 (by decide) _ _
abbrev K72 (J : CallF) : Prop := ∀ (h : Heap) (M : List (List Int)), isMat M = true → J 72 [.agg (matC M)] h = some (.agg (sq (onF M.length)), [], false)
theorem k72 : K72 T13 := fun h M hm => by
  obtain ⟨v, own, e, rfl, rfl⟩ := addK_some (tbl := tbl) (I := T12) (f := 72) (Pre := Pre72) (Post := Post72) (fun M args h hp => by
    obtain ⟨hm, rfl⟩ := hp
    exact ⟨_, _, c72_ok T12 (fun _ _ => by simp (disch := decide) only [T12, T11, T10, T9, T8, T7, T6, T5, T4, T3, T2, T1, R21, R20, R19, R18, R17, R16, R15, R14, R13, R12, R11, R10, R9, R8, R7, R6, R5, R4, R3, R2, R1, addI_ne, addX_ne, addV_ne, addK_ne]; rfl) h hm, rfl, rfl⟩) M _ h ⟨hm, rfl⟩
  exact e
structure A73 where
  M : List (List Int)
  X : Nat → Int
def Ok73 (a : A73) : Prop := isMat a.M = true ∧ ∀ x, 0 ≤ a.X x ∧ a.X x ≤ mostP
open Classical in
noncomputable def v73 (a : A73) : AV := if prOk a.M a.X 0 then .tup [.agg (sq (prF a.M a.X)), .bool true] else .tup [.agg (sq fun _ => 0), .bool false]
def Pre73 (a : A73) (args : List AV) (h : Heap) : Prop := Ok73 a ∧ args = [.agg (matC a.M), .agg (sq a.X), .agg (sq (entS a.M))]
def Post73 (a : A73) (h : Heap) (v : AV) (own : List AObj) : Prop := v = v73 a ∧ own = []
noncomputable def T14 : CallF := addK tbl T13 73 Pre73 Post73
theorem t14 : Sound Go.Proofs.Try.prog T14 := Sound.addK follows ok t13 (by decide) _ _
abbrev K73 (J : CallF) : Prop := ∀ (h : Heap) (a : A73), Ok73 a → J 73 [.agg (matC a.M), .agg (sq a.X), .agg (sq (entS a.M))] h = some (v73 a, [], false)
theorem k73 : K73 T14 := fun h a ha => by
  obtain ⟨v, own, e, rfl, rfl⟩ := addK_some (tbl := tbl) (I := T13) (f := 73) (Pre := Pre73) (Post := Post73) (fun a args h hp => by
    obtain ⟨⟨hm, hX⟩, rfl⟩ := hp
    exact ⟨_, _, c73_ok T13 (fun _ _ => by simp (disch := decide) only [T13, T12, T11, T10, T9, T8, T7, T6, T5, T4, T3, T2, T1, R21, R20, R19, R18, R17, R16, R15, R14, R13, R12, R11, R10, R9, R8, R7, R6, R5, R4, R3, R2, R1, addI_ne, addX_ne, addV_ne, addK_ne]; rfl) h hm hX, rfl, rfl⟩) a _ h ⟨ha, rfl⟩
  exact e
def Pre74 (a : A73) (args : List AV) (h : Heap) : Prop := isMat a.M = true ∧ args = [.agg (matC a.M), .agg (sq a.X)]
def Post74 (a : A73) (h : Heap) (v : AV) (own : List AObj) : Prop := TB h (h.plus own) v ((List.range a.M.length).map fun i => gs (rwL a.X a.M.length i))
noncomputable def T15 : CallF := addK tbl T14 74 Pre74 Post74
theorem t15 : Sound Go.Proofs.Try.prog T15 := Sound.addK follows ok t14 (by decide) _ _
abbrev K74 (J : CallF) : Prop := ∀ (h : Heap) (a : A73), isMat a.M = true → ∃ v own, J 74 [.agg (matC a.M), .agg (sq a.X)] h = some (v, own, false) ∧ TB h (h.plus own) v ((List.range a.M.length).map fun i => gs (rwL a.X a.M.length i))
theorem k79_14 : K79 T14 := fun h a ha => by
  simp (disch := decide) only [T14, T13, addK_ne]
  exact k79 h a ha
theorem k74 : K74 T15 := fun h a ha => addK_some (tbl := tbl) (I := T14) (f := 74) (Pre := Pre74) (Post := Post74) (fun a args h hp => by
    obtain ⟨hm, rfl⟩ := hp
    exact c74_ok T14 k79_14 (fun _ _ => by simp (disch := decide) only [T14, T13, T12, T11, T10, T9, T8, T7, T6, T5, T4, T3, T2, T1, R21, R20, R19, R18, R17, R16, R15, R14, R13, R12, R11, R10, R9, R8, R7, R6, R5, R4, R3, R2, R1, addI_ne, addX_ne, addV_ne, addK_ne]; rfl) h hm a.X) a _ h ⟨ha, rfl⟩
section
variable {M : List (List Int)} {y : AV}
def pwX (M : List (List Int)) : Nat → Nat → Int
  | 0 => onF M.length
  | k + 1 => prF M (pwX M k)
def okP (M : List (List Int)) (k : Nat) : Prop := ∀ m, m < k → prOk M (pwX M m) 0
theorem okP_s {k : Nat} : okP M (k + 1) ↔ okP M k ∧ prOk M (pwX M k) 0 := by
  constructor
  · intro h; exact ⟨fun m hm => h m (by omega), h k (by omega)⟩
  · rintro ⟨a, b⟩ m hm
    by_cases e : m = k
    · subst e; exact b
    · exact a m (by omega)
theorem pwX_bd (hm : isMat M = true) : ∀ {k : Nat}, okP M k → ∀ x, 0 ≤ pwX M k x ∧ pwX M k x ≤ mostP
  | 0, _, x => by
    show 0 ≤ onF M.length x ∧ onF M.length x ≤ mostP
    unfold onF
    split <;> decide
  | k + 1, h, x => by
    have ih := pwX_bd hm (okP_s.1 h).1
    have hk := (okP_s.1 h).2
    show 0 ≤ prF M (pwX M k) x ∧ prF M (pwX M k) x ≤ mostP
    unfold prF
    by_cases c : x / 8 < M.length
    · rw [if_pos c]
      refine ⟨dt_nn hm (fun x => (ih x).1) _ _ _, ?_⟩
      by_cases c2 : x % 8 < M.length
      · exact hk _ (Nat.zero_le _) c _ (Nat.zero_le _) c2
      · rw [dt_out hm _ _ (by omega)]; decide
    · rw [if_neg c]; exact ⟨Int.le_refl _, by decide⟩
def HQ (h : Heap) (M : List (List Int)) (f : Nat → Int) : Heap := ⟨h.get, h.size, [.cells 0 65 (matC M), .cells 0 64 (sq f)]⟩
theorem mat_tail (M : List (List Int)) : ((matC M).drop 1).take 64 = sq (entS M) := by
  show (sq (fun x => ent M (x / 8) (x % 8))).take 64 = _
  exact List.take_of_length_le (by rw [sq_len]; exact Nat.le_refl _)
theorem c43_l (J : CallF) (k73 : K73 J) (h : Heap) (hm : isMat M = true) {k : Nat} (hk : k ≤ 100) : ∀ d m, m + d = k → okP M m →
    (okP M k → Tr tbl J c43_l0 (fun s h' => h' = HQ h M (pwX M m) ∧ s.get [true, true] = .ptr h.size 0 65 ∧ s.get [true, false, false] = .ptr (h.size + 1) 0 64 ∧ s.get [false, false, false, true] = G k ∧ s.get [true, false, false, true] = G m) (.exit 0) (fun s h' => h' = HQ h M (pwX M k) ∧ s.get [true, true] = .ptr h.size 0 65 ∧ s.get [true, false, false] = .ptr (h.size + 1) 0 64)) ∧
    (¬ okP M k → Tr tbl J c43_l0 (fun s h' => h' = HQ h M (pwX M m) ∧ s.get [true, true] = .ptr h.size 0 65 ∧ s.get [true, false, false] = .ptr (h.size + 1) 0 64 ∧ s.get [false, false, false, true] = G k ∧ s.get [true, false, false, true] = G m) .ret (fun s h => s.get [true, false] = .nils ∧ s.get [false, true] = G 5)) := by
  intro d
  induction d with
  | zero =>
    intro m hmk ho
    obtain rfl : m = k := by omega
    refine ⟨fun _ => Tr.out ?_ (by simp), fun c => absurd ho c⟩
    simp only [HQ]
    refine Tr.w fun s1 H1 hp R kR => W.trim ?_
    obtain ⟨rfl, q⟩ := hp
    refine W.seq (W.chunk ?_)
    simp (disch := first|omega|exact zE rfl|exact zO|exact zL rfl) [c43_o6, size_mk, get_mk_lt, get_mk_ge, frameOf, Eff.app, Heap.setOwn, q]
    refine W.seq (W.chunk ?_)
    simp (disch := first|omega|exact zE rfl|exact zO|exact zL rfl) [size_mk, get_mk_lt, get_mk_ge, frameOf, Eff.app, Heap.setOwn, q]
    exact kR _ _ (by simp [T.get, q])
  | succ d ih =>
    intro m hmk ho
    have kk := k73 ⟨h.get, h.size, [.cells 0 65 (matC M), .cells 0 64 (sq (pwX M m))]⟩ ⟨M, pwX M m⟩ ⟨hm, pwX_bd hm ho⟩
    simp only at kk
    have et : (matC M).take 65 = matC M := List.take_of_length_le (by rw [matC_len]; exact Nat.le_refl _)
    have et2 := mat_tail M
    have et2' : (matC M).tail.take 64 = sq (entS M) := by rw [← List.drop_one]; exact et2
    have et3 : (sq (pwX M m)).take 64 = sq (pwX M m) := List.take_of_length_le (by rw [sq_len]; exact Nat.le_refl _)
    have lm := matC_len M
    have l1 := sq_len (pwX M m)
    have l3 := sq_len (entS M)
    by_cases c : prOk M (pwX M m) 0
    · obtain ⟨ih1, ih2⟩ := ih (m + 1) (by omega) (okP_s.2 ⟨ho, c⟩)
      rw [show v73 ⟨M, pwX M m⟩ = .tup [.agg (sq (pwX M (m + 1))), .bool true] from if_pos c] at kk
      have l2 := sq_len (pwX M (m + 1))
      have ep : putAt (sq (pwX M m)) 0 (sq (pwX M (m + 1))) = sq (pwX M (m + 1)) := putAt_all _ _ (by omega)
      have step : Tr tbl J (.trim [[true, true], [true, false, false], [false, false, false, true], [true, false, false, true]] c43_b0) (fun s h' => h' = HQ h M (pwX M m) ∧ s.get [true, true] = .ptr h.size 0 65 ∧ s.get [true, false, false] = .ptr (h.size + 1) 0 64 ∧ s.get [false, false, false, true] = G k ∧ s.get [true, false, false, true] = G m) .normal (fun s h' => h' = HQ h M (pwX M (m + 1)) ∧ s.get [true, true] = .ptr h.size 0 65 ∧ s.get [true, false, false] = .ptr (h.size + 1) 0 64 ∧ s.get [false, false, false, true] = G k ∧ s.get [true, false, false, true] = G ((m + 1 : Nat) : Int)) := by
        simp only [HQ]
        clear ih1 ih2 ih
        generalize sq (pwX M (m + 1)) = c1 at *
        generalize sq (pwX M m) = c0 at *
        generalize sq (entS M) = cy at *
        generalize matC M = cm at *
        refine Tr.w fun s1 H1 hp R kR => W.trim ?_
        obtain ⟨rfl, q⟩ := hp
        refine W.seq (W.chunk ?_)
        simp (disch := first|omega|exact zE rfl|exact zO|exact zL rfl) [c43_o6, size_mk, get_mk_lt, get_mk_ge, frameOf, Eff.app, Heap.setOwn, q]
        refine W.seq (W.chunk ?_)
        simp (disch := first|omega|exact zE rfl|exact zO|exact zL rfl) [size_mk, get_mk_lt, get_mk_ge, frameOf, Eff.app, Heap.setOwn, q]
        refine W.seq (W.block ?_)
        refine W.seq (W.chunk ?_)
        simp (disch := first|omega|exact zE rfl|exact zO|exact zL rfl) [c43_o7, size_mk, get_mk_lt, get_mk_ge, frameOf, Eff.app, Heap.setOwn, q, et, et2, et3, lm, l1, l2, l3, kk, ep, et2']
        refine W.seq (W.chunk ?_)
        simp (disch := first|omega|exact zE rfl|exact zO|exact zL rfl) [c43_o8, size_mk, get_mk_lt, get_mk_ge, frameOf, Eff.app, Heap.setOwn, q]
        refine W.chunk ?_
        simp (disch := first|omega|exact zE rfl|exact zO|exact zL rfl) [c43_o9, size_mk, get_mk_lt, get_mk_ge, frameOf, Eff.app, Heap.setOwn, q]
        refine W.chunk ?_
        simp (disch := first|omega|exact zE rfl|exact zO|exact zL rfl) [c43_o10, size_mk, get_mk_lt, get_mk_ge, frameOf, Eff.app, Heap.setOwn, q]
        exact kR _ _ (by simp [T.get, q])
      exact ⟨fun q => Tr.next step (ih1 q), fun q => Tr.next step (ih2 q)⟩
    · rw [show v73 ⟨M, pwX M m⟩ = .tup [.agg (sq fun _ => 0), .bool false] from if_neg c] at kk
      have l2 := sq_len (fun _ => 0)
      have ep : putAt (sq (pwX M m)) 0 (sq fun _ => 0) = sq fun _ => 0 := putAt_all _ _ (by omega)
      refine ⟨fun q => absurd (q m (by omega)) c, fun _ => Tr.out ?_ (by simp)⟩
      simp only [HQ]
      generalize (sq fun _ => 0) = c1 at *
      generalize sq (pwX M m) = c0 at *
      generalize sq (entS M) = cy at *
      generalize matC M = cm at *
      refine Tr.w fun s1 H1 hp R kR => W.trim ?_
      obtain ⟨rfl, q⟩ := hp
      refine W.seq (W.chunk ?_)
      simp (disch := first|omega|exact zE rfl|exact zO|exact zL rfl) [c43_o6, size_mk, get_mk_lt, get_mk_ge, frameOf, Eff.app, Heap.setOwn, q]
      refine W.seq (W.chunk ?_)
      simp (disch := first|omega|exact zE rfl|exact zO|exact zL rfl) [size_mk, get_mk_lt, get_mk_ge, frameOf, Eff.app, Heap.setOwn, q]
      refine W.seq (W.block ?_)
      refine W.seq (W.chunk ?_)
      simp (disch := first|omega|exact zE rfl|exact zO|exact zL rfl) [c43_o7, size_mk, get_mk_lt, get_mk_ge, frameOf, Eff.app, Heap.setOwn, q, et, et2, et3, lm, l1, l2, l3, kk, ep, et2']
      refine W.seq (W.chunk ?_)
      simp (disch := first|omega|exact zE rfl|exact zO|exact zL rfl) [c43_o8, size_mk, get_mk_lt, get_mk_ge, frameOf, Eff.app, Heap.setOwn, q]
      refine W.chunk ?_
      simp (disch := first|omega|exact zE rfl|exact zO|exact zL rfl) [c43_o9, size_mk, get_mk_lt, get_mk_ge, frameOf, Eff.app, Heap.setOwn, q]
      exact kR _ _ (by simp [T.get, q])
theorem c43_bad (J : CallF) (k54 : K54 J) (k57 : K57 J) (hJ : ∀ a h, J 43 a h = none) (h : Heap) (hy : MR h y M) {k : Int} (hb : ¬ (isMat M = true ∧ 0 ≤ k ∧ k ≤ 100)) : CallsTo tbl J 43 [y, G k] h (.tup [.nils, G 2], [], false) := by
  refine Tr.fnv (cf := c43) (e := .ret) (s := T.set (T.set .leaf [] y) [false] (G k)) (by decide) rfl (hJ _ _) rfl rfl rfl (by simp) ?_
  obtain ⟨cs, k54, hl, hc⟩ := k54 ⟨h.get, h.size, []⟩ y M (hy.lo [])
  have rp : (List.replicate 65 (AV.int .i64 0)).length = 65 := List.length_replicate
  have ep : putAt (List.replicate 65 (AV.int .i64 0)) 0 cs = cs := putAt_all _ _ (by omega)
  refine Tr.w fun s1 H1 hp R kR => ?_
  obtain ⟨rfl, rfl⟩ := hp
  have q : True := trivial
  have fin : ∀ s h', s.get [true, false] = .nils → s.get [false, true] = G 2 → R .ret s h' := fun s h' a b => kR _ _ ⟨[.nils, G 2], by simp [c43, evRess, evRes, a, b], rfl⟩
  have kk := fun h => k57 k 0 100 h
  generalize hZ : List.replicate 65 (AV.int .i64 0) = Z at *
  clear hc
  cases hm : isMat M
  · rw [hm] at k54
    refine W.seq (W.chunk ?_)
    simp (disch := first|omega|exact zE rfl|exact zO|exact zL rfl) [-List.reduceReplicate, c43_o0, size_mk, get_mk_lt, get_mk_ge, frameOf, Eff.app, Heap.setOwn, q]
    refine W.seq (W.chunk ?_)
    simp (disch := first|omega|exact zE rfl|exact zO|exact zL rfl) [-List.reduceReplicate, c43_o1, size_mk, get_mk_lt, get_mk_ge, frameOf, Eff.app, Heap.setOwn, q, k54, hZ, ep, rp, hl, frameOf]
    refine W.assoc ?_
    refine W.seq (W.chunk ?_)
    simp (disch := first|omega|exact zE rfl|exact zO|exact zL rfl) [-List.reduceReplicate, c43_o2, size_mk, get_mk_lt, get_mk_ge, frameOf, Eff.app, Heap.setOwn, q]
    refine W.seq (W.chunk ?_)
    simp (disch := first|omega|exact zE rfl|exact zO|exact zL rfl) [-List.reduceReplicate, c43_o3, size_mk, get_mk_lt, get_mk_ge, frameOf, Eff.app, Heap.setOwn, q]
    exact fin _ _ (by simp [T.get]) (by simp [T.get])
  · rw [hm] at k54
    simp only [hm, true_and] at hb
    refine W.seq (W.chunk ?_)
    simp (disch := first|omega|exact zE rfl|exact zO|exact zL rfl) [-List.reduceReplicate, c43_o0, size_mk, get_mk_lt, get_mk_ge, frameOf, Eff.app, Heap.setOwn, q]
    refine W.seq (W.chunk ?_)
    simp (disch := first|omega|exact zE rfl|exact zO|exact zL rfl) [-List.reduceReplicate, c43_o1, size_mk, get_mk_lt, get_mk_ge, frameOf, Eff.app, Heap.setOwn, q, k54, hZ, ep, rp, hl, frameOf]
    refine W.assoc ?_
    refine W.seq (W.chunk ?_)
    simp (disch := first|omega|exact zE rfl|exact zO|exact zL rfl) [-List.reduceReplicate, c43_o2, size_mk, get_mk_lt, get_mk_ge, frameOf, Eff.app, Heap.setOwn, q, kk]
    refine W.seq (W.chunk ?_)
    simp (disch := first|omega|exact zE rfl|exact zO|exact zL rfl) [-List.reduceReplicate, c43_o3, size_mk, get_mk_lt, get_mk_ge, frameOf, Eff.app, Heap.setOwn, q]
    exact fin _ _ (by simp [T.get]) (by simp [T.get])
def pwL (M : List (List Int)) (k : Nat) : List (List Int) := (List.range M.length).map fun i => rwL (pwX M k) M.length i
theorem c43_ok (J : CallF) (k54 : K54 J) (k57 : K57 J) (k72 : K72 J) (k73 : K73 J) (k74 : K74 J) (hJ : ∀ a h, J 43 a h = none) (h : Heap) (hy : MR h y M) (hm : isMat M = true) {k : Nat} (hk : k ≤ 100) :
    ∃ v own, CallsTo tbl J 43 [y, G k] h (v, own, false) ∧ (¬ okP M k → v = .tup [.nils, G 5] ∧ own = []) ∧ (okP M k → ∃ w, v = .tup [w, G 0] ∧ TB h (h.plus own) w ((pwL M k).map gs)) := by
  refine Tr.fny (cf := c43) (e := .ret) (s := T.set (T.set .leaf [] y) [false] (G k)) (by decide) rfl (hJ _ _) rfl rfl (by simp) ?_
  obtain ⟨cs, k54, hl, hc⟩ := k54 ⟨h.get, h.size, []⟩ y M (hy.lo [])
  have rp : (List.replicate 65 (AV.int .i64 0)).length = 65 := List.length_replicate
  obtain rfl := hc hm
  have ep : putAt (List.replicate 65 (AV.int .i64 0)) 0 (matC M) = matC M := putAt_all _ _ (by omega)
  have h8 := isMat_n hm
  obtain ⟨l1, l2⟩ := c43_l J k73 h hm hk k 0 (by omega) (fun m hm => absurd hm (by omega))
  refine Tr.w fun s1 H1 hp R kR => ?_
  obtain ⟨rfl, rfl⟩ := hp
  have q : True := trivial
  have kk := fun h => k57 k 0 100 h
  have k72' := fun h => k72 h M hm
  have lo := sq_len (onF M.length)
  have lz := sq_len fun _ => 0
  have rs := sq_rep
  have ep2 : putAt (sq fun _ => 0) 0 (sq (onF M.length)) = sq (onF M.length) := putAt_all _ _ (by omega)
  have et : (matC M).take 65 = matC M := List.take_of_length_le (by omega)
  have rp2 : List.replicate 65 (AV.int .i64 0) = List.replicate 65 (AV.int .i64 0) := rfl
  generalize hZ : List.replicate 65 (AV.int .i64 0) = Z at *
  rw [hm] at k54
  by_cases c : okP M k
  · have l1 := l1 c
    obtain ⟨w, own, k74, tb⟩ := k74 ⟨h.get, h.size, [.cells 0 65 (matC M), .cells 0 64 (sq (pwX M k))]⟩ ⟨M, pwX M k⟩ hm
    simp only at k74
    have tb := tb.up
    have et3 : (sq (pwX M k)).take 64 = sq (pwX M k) := List.take_of_length_le (by rw [sq_len]; exact Nat.le_refl _)
    have l3 := sq_len (pwX M k)
    refine W.seq (W.chunk ?_)
    simp (disch := first|omega|exact zE rfl|exact zO|exact zL rfl) [-List.reduceReplicate, c43_o0, size_mk, get_mk_lt, get_mk_ge, frameOf, Eff.app, Heap.setOwn, q]
    refine W.seq (W.chunk ?_)
    simp (disch := first|omega|exact zE rfl|exact zO|exact zL rfl) [-List.reduceReplicate, c43_o1, size_mk, get_mk_lt, get_mk_ge, frameOf, Eff.app, Heap.setOwn, q, k54, hZ, ep, rp, hl, frameOf]
    refine W.assoc ?_
    refine W.seq (W.chunk ?_)
    simp (disch := first|omega|exact zE rfl|exact zO|exact zL rfl) [-List.reduceReplicate, c43_o2, size_mk, get_mk_lt, get_mk_ge, frameOf, Eff.app, Heap.setOwn, q, kk]
    refine W.seq (W.chunk ?_)
    simp (disch := first|omega|exact zE rfl|exact zO|exact zL rfl) [-List.reduceReplicate, c43_o3, size_mk, get_mk_lt, get_mk_ge, frameOf, Eff.app, Heap.setOwn, q]
    refine W.seq (W.chunk ?_)
    simp (disch := first|omega|exact zE rfl|exact zO|exact zL rfl) [-List.reduceReplicate, c43_o4, size_mk, get_mk_lt, get_mk_ge, frameOf, Eff.app, Heap.setOwn, q, et, hl, k72', lo, lz, rs, ep2]
    refine W.assoc ?_
    refine W.seq (W.chunk ?_)
    simp (disch := first|omega|exact zE rfl|exact zO|exact zL rfl) [-List.reduceReplicate, c43_o5, size_mk, get_mk_lt, get_mk_ge, frameOf, Eff.app, Heap.setOwn, q]
    refine W.seq (W.block ?_)
    refine W.use (l1) (by simp (disch := first|omega|exact zE rfl|exact zO|exact zL rfl) [-List.reduceReplicate, size_mk, get_mk_lt, get_mk_ge, frameOf, Eff.app, Heap.setOwn, q, HQ, pwX, hl, lo]) fun s1 H1 hp => ?_
    obtain ⟨rfl, q⟩ := hp
    try simp only [zW, if_true]
    simp only [HQ]
    refine W.seq (W.chunk ?_)
    simp (disch := first|omega|exact zE rfl|exact zO|exact zL rfl) [-List.reduceReplicate, c43_o11, zG, q, get_mk_ge, et, et3, hl, l3, k74, app_if, app_if']
    refine W.ret ?_
    try simp only [zW, if_true]
    exact kR _ _ ⟨[w, G 0], by simp [T.get, c43, evRess, evRes], fun q => absurd c q, fun _ => ⟨w, rfl, by
      have e : ((pwL M k).map gs) = ((List.range M.length).map fun i => gs (rwL (pwX M k) M.length i)) := by unfold pwL; rw [List.map_map]; rfl
      rw [e]
      split
      · rename_i hf
        obtain ⟨rs', lv, hl', hr⟩ := tb.r
        rcases lv with ⟨rfl, rfl⟩ | ⟨b, rfl, g, n⟩
        · simp at hl'; omega
        · simp [one, AV.flat, AV.flats] at hf
      · exact tb.fr⟩⟩
  · have l2 := l2 c
    refine W.seq (W.chunk ?_)
    simp (disch := first|omega|exact zE rfl|exact zO|exact zL rfl) [-List.reduceReplicate, c43_o0, size_mk, get_mk_lt, get_mk_ge, frameOf, Eff.app, Heap.setOwn, q]
    refine W.seq (W.chunk ?_)
    simp (disch := first|omega|exact zE rfl|exact zO|exact zL rfl) [-List.reduceReplicate, c43_o1, size_mk, get_mk_lt, get_mk_ge, frameOf, Eff.app, Heap.setOwn, q, k54, hZ, ep, rp, hl, frameOf]
    refine W.assoc ?_
    refine W.seq (W.chunk ?_)
    simp (disch := first|omega|exact zE rfl|exact zO|exact zL rfl) [-List.reduceReplicate, c43_o2, size_mk, get_mk_lt, get_mk_ge, frameOf, Eff.app, Heap.setOwn, q, kk]
    refine W.seq (W.chunk ?_)
    simp (disch := first|omega|exact zE rfl|exact zO|exact zL rfl) [-List.reduceReplicate, c43_o3, size_mk, get_mk_lt, get_mk_ge, frameOf, Eff.app, Heap.setOwn, q]
    refine W.seq (W.chunk ?_)
    simp (disch := first|omega|exact zE rfl|exact zO|exact zL rfl) [-List.reduceReplicate, c43_o4, size_mk, get_mk_lt, get_mk_ge, frameOf, Eff.app, Heap.setOwn, q, et, hl, k72', lo, lz, rs, ep2]
    refine W.assoc ?_
    refine W.seq (W.chunk ?_)
    simp (disch := first|omega|exact zE rfl|exact zO|exact zL rfl) [-List.reduceReplicate, c43_o5, size_mk, get_mk_lt, get_mk_ge, frameOf, Eff.app, Heap.setOwn, q]
    refine W.seq (W.block ?_)
    refine W.use (l2) (by simp (disch := first|omega|exact zE rfl|exact zO|exact zL rfl) [-List.reduceReplicate, size_mk, get_mk_lt, get_mk_ge, frameOf, Eff.app, Heap.setOwn, q, HQ, pwX, hl, lo]) fun s1 H1 hp => ?_
    obtain ⟨q1, q2⟩ := hp
    try simp only [zW, if_true]
    exact kR _ _ ⟨[.nils, G 5], by simp [c43, evRess, evRes, q1, q2], fun _ => (by simp [one, AV.flat, AV.flats]), fun q => absurd q c⟩
end
section
variable {M : List (List Int)}
structure E46 (M : List (List Int)) (X : Nat → Int) (H : Heap) (b v q0 : Nat) (cs rs : List AV) : Prop where
  mx : MX H M b v cs
  gq : H.get q0 = .cells 1 M.length rs
  r : ∀ i, i < M.length → ∃ b2, rs[i]? = some (.slice b2 0 M.length M.length) ∧ H.get b2 = .cells 1 M.length (gs (rwL X M.length i))
theorem E46.kp {X : Nat → Int} {H H' : Heap} {b v q0 : Nat} {cs rs : List AV} (e : E46 M X H b v q0 cs rs) (k : Kp (fun _ => False) H H') : E46 M X H' b v q0 cs rs :=
  ⟨e.mx.kp k, k.at e.gq (by simp) id, fun i hi => by obtain ⟨b2, x, y⟩ := e.r i hi; exact ⟨b2, x, k.at y (by simp) id⟩⟩
end
theorem TB.base {H0 H1 H : Heap} {x : AV} {L : List (List AV)} (k : Kp (fun _ => False) H0 H1) (t : TB H1 H x L) : TB H0 H x L := by
  obtain ⟨rs, lv, hl, hr⟩ := t.r
  exact ⟨k.trans t.k, fun q hq => Nat.le_trans k.size (t.x0 q hq), rs, lv, hl, fun i r hi => by
    obtain ⟨cs, b, h1, h2, h3, h4, h5⟩ := hr i r hi
    exact ⟨cs, b, h1, h2, h3, h4, Nat.le_trans k.size h5⟩⟩
section
variable {M : List (List Int)}
theorem pwL_len (k : Nat) : ((pwL M k).map gs).length = M.length := by simp [pwL]
theorem pwL_at (k : Nat) {i : Nat} (hi : i < M.length) : ((pwL M k).map gs)[i]? = some (gs (rwL (pwX M k) M.length i)) := by simp [pwL, hi]
end
structure A43 where
  M : List (List Int)
  y : AV
  k : Int
def pkOk (a : A43) : Prop := isMat a.M = true ∧ 0 ≤ a.k ∧ a.k ≤ 100
def Pre43 (a : A43) (args : List AV) (h : Heap) : Prop := MR h a.y a.M ∧ args = [a.y, G a.k]
def Post43 (a : A43) (h : Heap) (v : AV) (own : List AObj) : Prop := (¬ pkOk a → v = .tup [.nils, G 2] ∧ own = []) ∧ (pkOk a → ¬ okP a.M a.k.toNat → v = .tup [.nils, G 5] ∧ own = []) ∧ (pkOk a → okP a.M a.k.toNat → ∃ w, v = .tup [w, G 0] ∧ TB h (h.plus own) w ((pwL a.M a.k.toNat).map gs))
noncomputable def T16 : CallF := addK tbl T15 43 Pre43 Post43
theorem t16 : Sound Go.Proofs.Try.prog T16 := Sound.addK follows ok t15 (by decide) _ _
abbrev K43 (J : CallF) : Prop := ∀ (h : Heap) (a : A43), MR h a.y a.M → ∃ v own, J 43 [a.y, G a.k] h = some (v, own, false) ∧ Post43 a h v own
theorem k54_15 : K54 T15 := fun h y M hy => by
  simp (disch := decide) only [T15, T14, T13, T12, T11, T10, T9, T8, T7, T6, T5, T4, T3, T2, T1, R21, R20, R19, R18, R17, R16, R15, R14, R13, R12, R11, R10, R9, R8, R7, R6, R5, R4, R3, R2, R1, addI_ne, addX_ne, addV_ne, addK_ne]
  exact k54 h y M hy
theorem k57_15 : K57 T15 := fun n lo hi h => by
  simp (disch := decide) only [T15, T14, T13, T12, T11, T10, T9, T8, T7, T6, T5, T4, T3, T2, T1, R21, R20, R19, R18, R17, R16, R15, R14, R13, R12, R11, R10, R9, R8, R7, R6, R5, R4, R3, R2, R1, addI_ne, addX_ne, addV_ne, addK_ne]
  exact k57 n lo hi h
theorem k72_15 : K72 T15 := fun h M hm => by
  simp (disch := decide) only [T15, T14, addK_ne]
  exact k72 h M hm
theorem k73_15 : K73 T15 := fun h a ha => by
  simp (disch := decide) only [T15, addK_ne]
  exact k73 h a ha
theorem k43 : K43 T16 := fun h a ha => addK_some (Pre := Pre43) (Post := Post43) (fun a args h hp => by
  obtain ⟨hy, rfl⟩ := hp
  have hn : ∀ a h, T15 43 a h = none := (fun _ _ => by simp (disch := decide) only [T15, T14, T13, T12, T11, T10, T9, T8, T7, T6, T5, T4, T3, T2, T1, R21, R20, R19, R18, R17, R16, R15, R14, R13, R12, R11, R10, R9, R8, R7, R6, R5, R4, R3, R2, R1, addI_ne, addX_ne, addV_ne, addK_ne]; rfl)
  by_cases c : pkOk a
  · obtain ⟨k, hk⟩ : ∃ k : Nat, a.k = k := ⟨a.k.toNat, by have := c.2; omega⟩
    obtain ⟨c1, c2⟩ := id c
    obtain ⟨v, own, e, p1, p2⟩ := c43_ok T15 k54_15 k57_15 k72_15 k73_15 k74 hn h hy c1 (k := k) (by omega)
    rw [hk]
    refine ⟨v, own, e, fun q => absurd c q, fun _ q => p1 ?_, fun _ q => ?_⟩
    · rw [hk] at q; simpa using q
    · rw [hk] at q ⊢; simpa using p2 (by simpa using q)
  · exact ⟨_, _, c43_bad T15 k54_15 k57_15 hn h hy c, fun _ => ⟨rfl, rfl⟩, fun q => absurd q c, fun q => absurd q c⟩) a _ h ⟨ha, rfl⟩
structure A46 where
  M : List (List Int)
  y : AV
  k : Nat
def Ok46 (a : A46) (h : Heap) : Prop := MR h a.y a.M ∧ isMat a.M = true ∧ a.k ≤ 100
def Pre46 (a : A46) (args : List AV) (h : Heap) : Prop := Ok46 a h ∧ args = [a.y, G a.k]
def Post46 (a : A46) (h : Heap) (v : AV) (own : List AObj) : Prop := (¬ okP a.M a.k → v = .tup [.nils, .bool false] ∧ own = []) ∧ (okP a.M a.k → ∃ w, v = .tup [w, .bool true] ∧ TB h (h.plus own) w ((pwL a.M a.k).map gs))
noncomputable def T17 : CallF := addK tbl T16 46 Pre46 Post46
theorem t17 : Sound Go.Proofs.Try.prog T17 := Sound.addK follows ok t16 (by decide) _ _
section
variable {M : List (List Int)}
theorem dt_le (hm : isMat M = true) {X : Nat → Int} {B : Int} (hB : 0 ≤ B) (hX : ∀ x, 0 ≤ X x ∧ X x ≤ B) (i j : Nat) : ∀ k : Nat, dt M X i j k ≤ k * (B * 9)
  | 0 => by simp [dt]
  | k + 1 => by
    have a := dt_le hm hB hX i j k
    have e := ent_bd hm k j
    have b : X (i * 8 + k) * ent M k j ≤ B * 9 := Int.mul_le_mul (hX _).2 e.2 e.1 hB
    show dt M X i j k + X (i * 8 + k) * ent M k j ≤ ((k + 1 : Nat) : Int) * (B * 9)
    rw [Int.natCast_add, Int.add_mul]
    show _ ≤ (k : Int) * (B * 9) + 1 * (B * 9)
    rw [Int.one_mul]
    omega
theorem pwX_le (hm : isMat M = true) : ∀ k x, 0 ≤ pwX M k x ∧ pwX M k x ≤ (72 : Int) ^ k
  | 0, x => by
    show 0 ≤ onF M.length x ∧ onF M.length x ≤ 1
    unfold onF
    split <;> decide
  | k + 1, x => by
    have ih := pwX_le hm k
    have h8 := isMat_n hm
    have hB : (0 : Int) ≤ 72 ^ k := Int.le_trans (ih 0).1 (ih 0).2
    show 0 ≤ prF M (pwX M k) x ∧ prF M (pwX M k) x ≤ 72 ^ (k + 1)
    have hp : (72 : Int) ^ (k + 1) = 72 ^ k * 72 := Int.pow_succ _ _
    unfold prF
    by_cases c : x / 8 < M.length
    · rw [if_pos c]
      refine ⟨dt_nn hm (fun x => (ih x).1) _ _ _, ?_⟩
      have a := dt_le hm hB ih (x / 8) (x % 8) M.length
      have b : (M.length : Int) * ((72 : Int) ^ k * 9) ≤ 8 * ((72 : Int) ^ k * 9) := Int.mul_le_mul_of_nonneg_right (by omega) (by omega)
      rw [hp]
      generalize (72 : Int) ^ k = B at *
      omega
    · rw [if_neg c]
      exact ⟨Int.le_refl _, by rw [hp]; omega⟩
theorem okP_small (hm : isMat M = true) {k : Nat} (hk : k ≤ 9) : okP M k := fun m hmk i _ hi j _ hj => by
  have h8 := isMat_n hm
  have := (pwX_le hm (m + 1) (i * 8 + j)).2
  have e : pwX M (m + 1) (i * 8 + j) = dt M (pwX M m) i j M.length := by
    show prF M (pwX M m) (i * 8 + j) = _
    unfold prF
    rw [show (i * 8 + j) / 8 = i by omega, show (i * 8 + j) % 8 = j by omega, if_pos hi]
  rw [e] at this
  have : m = 0 ∨ m = 1 ∨ m = 2 ∨ m = 3 ∨ m = 4 ∨ m = 5 ∨ m = 6 ∨ m = 7 ∨ m = 8 := by omega
  rcases this with rfl | rfl | rfl | rfl | rfl | rfl | rfl | rfl | rfl <;> (have h := ‹dt _ _ _ _ _ ≤ _›; exact Int.le_trans h (by decide))
def sm (f : Nat → Int) : Nat → Int
  | 0 => 0
  | k + 1 => sm f k + f k
theorem sm_congr {f g : Nat → Int} : ∀ {n}, (∀ k, k < n → f k = g k) → sm f n = sm g n
  | 0, _ => rfl
  | n + 1, h => by
    show sm f n + f n = sm g n + g n
    rw [sm_congr (fun k hk => h k (by omega)), h n (by omega)]
theorem sm_add (f g : Nat → Int) : ∀ n, sm (fun k => f k + g k) n = sm f n + sm g n
  | 0 => rfl
  | n + 1 => by
    show sm _ n + (f n + g n) = (sm f n + f n) + (sm g n + g n)
    rw [sm_add f g n]; omega
theorem sm_mul (c : Int) (f : Nat → Int) : ∀ n, sm (fun k => c * f k) n = c * sm f n
  | 0 => by simp [sm]
  | n + 1 => by
    show sm _ n + c * f n = c * (sm f n + f n)
    rw [sm_mul c f n, Int.mul_add]
theorem sm_mulr (c : Int) (f : Nat → Int) (n : Nat) : sm (fun k => f k * c) n = sm f n * c := by
  rw [Int.mul_comm, ← sm_mul]
  exact sm_congr fun k _ => Int.mul_comm _ _
theorem sm_zero (n : Nat) : sm (fun _ => 0) n = 0 := by
  induction n with
  | zero => rfl
  | succ n ih => show sm _ n + 0 = 0; rw [ih]; rfl
theorem sm_swap (f : Nat → Nat → Int) (m : Nat) : ∀ n, sm (fun i => sm (fun j => f i j) m) n = sm (fun j => sm (fun i => f i j) n) m
  | 0 => (sm_zero m).symm
  | n + 1 => by
    show sm _ n + sm (fun j => f n j) m = sm (fun j => sm (fun i => f i j) n + f n j) m
    rw [sm_add, sm_swap f m n]
theorem sm_nn {f : Nat → Int} (h : ∀ k, 0 ≤ f k) : ∀ n, 0 ≤ sm f n
  | 0 => Int.le_refl _
  | n + 1 => by
    have a := sm_nn h n
    have b := h n
    show 0 ≤ sm f n + f n
    omega
theorem sm_one {f : Nat → Int} {n k : Nat} (hk : k < n) (h : ∀ j, j < n → j ≠ k → f j = 0) : sm f n = f k := by
  induction n with
  | zero => omega
  | succ n ih =>
    show sm f n + f n = f k
    by_cases e : k = n
    · subst e
      have : sm f k = sm (fun _ => 0) k := sm_congr fun j hj => h j (by omega) (by omega)
      rw [this, sm_zero]; omega
    · rw [ih (by omega) (fun j hj hne => h j (by omega) hne), h n (by omega) (fun e' => e e'.symm)]; omega
theorem dt_sm (X : Nat → Int) (i j : Nat) : ∀ k, dt M X i j k = sm (fun k => X (i * 8 + k) * ent M k j) k
  | 0 => rfl
  | k + 1 => by
    show dt M X i j k + _ = sm _ k + _
    rw [dt_sm X i j k]
theorem pwX_s {k i j : Nat} (hi : i < M.length) (hj : j < 8) : pwX M (k + 1) (i * 8 + j) = sm (fun h => pwX M k (i * 8 + h) * ent M h j) M.length := by
  show prF M (pwX M k) (i * 8 + j) = _
  unfold prF
  rw [show (i * 8 + j) / 8 = i by omega, show (i * 8 + j) % 8 = j by omega, if_pos hi, dt_sm]
theorem pwX_add (hm : isMat M = true) (s : Nat) {i : Nat} (hi : i < M.length) : ∀ t {j : Nat}, j < M.length → pwX M (s + t) (i * 8 + j) = sm (fun k => pwX M s (i * 8 + k) * pwX M t (k * 8 + j)) M.length
  | 0, j, hj => by
    have h8 := isMat_n hm
    rw [sm_one hj (fun k hk hne => by
      show pwX M s (i * 8 + k) * onF M.length (k * 8 + j) = 0
      unfold onF
      rw [if_neg (by omega), Int.mul_zero])]
    show pwX M s (i * 8 + j) = pwX M s (i * 8 + j) * onF M.length (j * 8 + j)
    unfold onF
    rw [if_pos (by omega), Int.mul_one]
  | t + 1, j, hj => by
    have h8 := isMat_n hm
    rw [show s + (t + 1) = (s + t) + 1 by omega, pwX_s hi (by omega)]
    have e1 : sm (fun h => pwX M (s + t) (i * 8 + h) * ent M h j) M.length = sm (fun h => sm (fun k => (pwX M s (i * 8 + k) * pwX M t (k * 8 + h)) * ent M h j) M.length) M.length := sm_congr fun h hh => by
      rw [pwX_add hm s hi t hh, sm_mulr]
    rw [e1, sm_swap]
    refine sm_congr fun k hk => ?_
    rw [pwX_s hk (by omega), ← sm_mul]
    exact sm_congr fun h hh => Int.mul_assoc _ _ _
end
structure TT (H : Heap) (n : Nat) (X : Nat → Int) (q : Nat) (rs : List AV) : Prop where
  g : H.get q = .cells 1 n rs
  r : ∀ i, i < n → ∃ b, rs[i]? = some (.slice b 0 n n) ∧ H.get b = .cells 1 n (gs (rwL X n i))
theorem TT.kp {H H' : Heap} {n : Nat} {X : Nat → Int} {q : Nat} {rs : List AV} (t : TT H n X q rs) (k : Kp (fun _ => False) H H') : TT H' n X q rs :=
  ⟨k.at t.g (by simp) id, fun i hi => by obtain ⟨b, e1, e2⟩ := t.r i hi; exact ⟨b, e1, k.at e2 (by simp) id⟩⟩
theorem rwL_at (X : Nat → Int) {n i j : Nat} (hj : j < n) : (gs (rwL X n i))[j]? = some (G (X (i * 8 + j))) := by
  show (gs (lf (fun j => X (i * 8 + j)) n))[j]? = _
  rw [gl_at _ hj]
section
variable {n : Nat} {A B C : Nat → Int} {qa qb qc : Nat} {ra rb rc : List AV} {H : Heap}
end
abbrev w6 (x : Int) : Int := IntKind.i64.wrap x
theorem w6_eq (x : Int) : w6 x = (x + 9223372036854775808) % 18446744073709551616 - 9223372036854775808 := by
  unfold w6 IntKind.wrap IntKind.bits IntKind.signed
  simp; omega
theorem w6_0 : w6 0 = 0 := by rw [w6_eq]; decide
theorem w6_add (x p : Int) : w6 (w6 x + w6 p) = w6 (x + p) := by
  simp only [w6_eq]; omega
section
variable {M : List (List Int)}
def sP (M : List (List Int)) (X : Nat → Int) (i j h : Nat) : Int := sm (fun h => ent M i h * X (h * 8 + j)) h
def fuC (M : List (List Int)) (X : Nat → Int) (c : Int) (i j : Nat) : Int := if j < M.length then (if i = j then w6 (w6 (sP M X i j M.length) + c) else w6 (sP M X i j M.length)) else 0
def nxX (M : List (List Int)) (X : Nat → Int) (c : Int) (x : Nat) : Int := if x / 8 < M.length then fuC M X c (x / 8) (x % 8) else 0
def pP (M : List (List Int)) (X : Nat → Int) (c : Int) (i j h x : Nat) : Int := if x / 8 < i then fuC M X c (x / 8) (x % 8) else if x / 8 = i then (if x % 8 < j then w6 (sP M X i (x % 8) M.length) else if x % 8 = j then w6 (sP M X i j h) else 0) else 0
theorem pP_0 (X : Nat → Int) (c : Int) : pP M X c 0 0 0 = fun _ => 0 := by
  funext x; unfold pP
  rw [if_neg (by omega)]
  split
  · rw [if_neg (by omega)]; split
    · exact w6_0
    · rfl
  · rfl
theorem pP_h (X : Nat → Int) (c : Int) (i j : Nat) : pP M X c i j M.length = pP M X c i (j + 1) 0 := by
  funext x; unfold pP
  by_cases h1 : x / 8 < i
  · rw [if_pos h1, if_pos h1]
  · rw [if_neg h1, if_neg h1]
    by_cases h2 : x / 8 = i
    · rw [if_pos h2, if_pos h2]
      by_cases h3 : x % 8 < j
      · rw [if_pos h3, if_pos (show x % 8 < j + 1 by omega)]
      · rw [if_neg h3]
        by_cases h4 : x % 8 = j
        · rw [if_pos h4, if_pos (show x % 8 < j + 1 by omega), h4]
        · rw [if_neg h4, if_neg (show ¬ x % 8 < j + 1 by omega)]
          split
          · exact w6_0.symm
          · rfl
    · rw [if_neg h2, if_neg h2]
theorem pP_at {X : Nat → Int} {c : Int} {i j h : Nat} (hj : j < 8) : pP M X c i j h (i * 8 + j) = w6 (sP M X i j h) := by
  unfold pP
  rw [if_neg (by omega), if_pos (by omega), if_neg (by omega), if_pos (by omega)]
theorem pP_set {X : Nat → Int} {c : Int} {i j h : Nat} (hi : i < 8) (hj : j < 8) : (sq (pP M X c i j h)).set (i * 8 + j) (G (w6 (sP M X i j h + ent M i h * X (h * 8 + j)))) = sq (pP M X c i j (h + 1)) := by
  rw [sq_set _ _ _ (by omega)]
  apply sq_ext
  intro x hx
  unfold pP
  by_cases e : x = i * 8 + j
  · rw [if_pos e, if_neg (by omega), if_pos (by omega), if_neg (by omega), if_pos (by omega)]; rfl
  · rw [if_neg e]
    by_cases h1 : x / 8 < i
    · rw [if_pos h1, if_pos h1]
    · rw [if_neg h1, if_neg h1]
      by_cases h2 : x / 8 = i
      · rw [if_pos h2, if_pos h2]
        by_cases h3 : x % 8 < j
        · rw [if_pos h3, if_pos h3]
        · rw [if_neg h3, if_neg h3, if_neg (by omega), if_neg (by omega)]
      · rw [if_neg h2, if_neg h2]
theorem pP_dg {X : Nat → Int} {c : Int} {i : Nat} (hi : i < M.length) (h8 : M.length ≤ 8) : (sq (pP M X c i M.length 0)).set (i * 8 + i) (G (w6 (w6 (sP M X i i M.length) + c))) = sq (pP M X c (i + 1) 0 0) := by
  rw [sq_set _ _ _ (by omega)]
  apply sq_ext
  intro x hx
  unfold pP fuC
  by_cases e : x = i * 8 + i
  · rw [if_pos e, if_pos (show x / 8 < i + 1 by omega), if_pos (show x % 8 < M.length by omega), if_pos (show x / 8 = x % 8 by omega), show x / 8 = i by omega, show x % 8 = i by omega]
  · rw [if_neg e]
    by_cases h1 : x / 8 < i
    · rw [if_pos h1, if_pos (show x / 8 < i + 1 by omega)]
    · rw [if_neg h1]
      by_cases h2 : x / 8 = i
      · rw [if_pos h2, if_pos (show x / 8 < i + 1 by omega)]
        by_cases h3 : x % 8 < M.length
        · rw [if_pos h3, if_pos h3, if_neg (by omega), h2]
        · rw [if_neg h3, if_neg h3]
          split
          · exact w6_0
          · rfl
      · rw [if_neg h2, if_neg (show ¬ x / 8 < i + 1 by omega)]
        split
        · rw [if_neg (by omega)]
          split
          · exact w6_0.symm
          · rfl
        · rfl
theorem pP_dgat {X : Nat → Int} {c : Int} {i : Nat} (hi : i < M.length) (h8 : M.length ≤ 8) : pP M X c i M.length 0 (i * 8 + i) = w6 (sP M X i i M.length) := by
  unfold pP
  rw [if_neg (by omega), if_pos (by omega), if_pos (by omega), show (i * 8 + i) % 8 = i by omega]
theorem pP_all (X : Nat → Int) (c : Int) : pP M X c M.length 0 0 = nxX M X c := by
  funext x; unfold pP nxX
  by_cases h1 : x / 8 < M.length
  · rw [if_pos h1, if_pos h1]
  · rw [if_neg h1, if_neg h1]
    split
    · rw [if_neg (by omega)]
      split
      · exact w6_0
      · rfl
    · rfl
def tI (M : List (List Int)) (X : Nat → Int) (i h : Nat) : Int := sm (fun h => ent M i h * X (h * 8 + i)) h
def tJ (M : List (List Int)) (X : Nat → Int) (i : Nat) : Int := sm (fun i => tI M X i M.length) i
def cf (k : Nat) (T : Int) : Int := w6 ((w6 (0 - w6 T)).tdiv k)
def pQ (M : List (List Int)) : Nat → (Nat → Int) × (Nat → Int)
  | 0 => (fun _ => 0, fun t => if t = M.length then 1 else 0)
  | k + 1 => (nxX M (pQ M k).1 ((pQ M k).2 (M.length - k)), fun t => if t = M.length - (k + 1) then cf (k + 1) (tJ M (nxX M (pQ M k).1 ((pQ M k).2 (M.length - k))) M.length) else (pQ M k).2 t)
def pyL (M : List (List Int)) : List Int := lf (pQ M M.length).2 (M.length + 1)
theorem n33_19 (J : CallF) {H : Heap} {bm bo bx n i j k l : Nat} {cm cx c0 c1 : List AV} {a b S : Int} (gm : H.get bm = .cells 0 65 cm) (gx : H.get bx = .cells 0 64 cx) (lm : cm.length = 65) (lx : cx.length = 64) (ea : cm[1 + i * 8 + l]? = some (G a)) (eb : cx[l * 8 + j]? = some (G b)) (e0 : c0[i * 8 + j]? = some (G (w6 S))) (l0 : c0.length = 64) (es : c0.set (i * 8 + j) (G (w6 (S + a * b))) = c1) (hi : i < n) (hj : j < n) (hl : l < n) (h8 : n ≤ 8) :
    Tr tbl J c33_o19 (fun s h => h = H.plus [.cells 0 64 c0] ∧ s.get [true, false] = .ptr bm 0 65 ∧ s.get [true, true] = .slice bo 0 (n + 1) (n + 1) ∧ s.get [false, false, false] = .ptr bx 0 64 ∧ s.get [true, false, false] = G k ∧ s.get [false, true, false] = .ptr H.size 0 64 ∧ s.get [true, true, false] = G i ∧ s.get [false, false, true] = G j ∧ s.get [true, false, true] = G l ∧ s.get [true, true, true, false, false] = G n ∧ s.get [false, false, false, true, false] = G i ∧ s.get [false, false, true, true, false] = G n ∧ s.get [true, false, true, true, false] = G j ∧ s.get [true, false, false, false, true] = G n ∧ s.get [false, true, false, false, true] = G l) .normal (fun s h => h = H.plus [.cells 0 64 c1] ∧ s.get [true, false] = .ptr bm 0 65 ∧ s.get [true, true] = .slice bo 0 (n + 1) (n + 1) ∧ s.get [false, false, false] = .ptr bx 0 64 ∧ s.get [true, false, false] = G k ∧ s.get [false, true, false] = .ptr H.size 0 64 ∧ s.get [true, true, false] = G i ∧ s.get [false, false, true] = G j ∧ s.get [true, true, true, false, false] = G n ∧ s.get [false, false, false, true, false] = G i ∧ s.get [false, false, true, true, false] = G n ∧ s.get [true, false, true, true, false] = G j ∧ s.get [true, false, false, false, true] = G n ∧ s.get [false, true, false, false, true] = G l) := by
  have gm' := fun c => plus_keep [c] gm (by simp)
  have gx' := fun c => plus_keep [c] gx (by simp)
  have ea' := getI ea
  have eb' := getI eb
  have e0' := getI e0
  have hw : IntKind.i64.wrap (IntKind.i64.wrap S + IntKind.i64.wrap (a * b)) = IntKind.i64.wrap (S + a * b) := w6_add S (a * b)
  refine Tr.w fun s1 H1 hp R kR => ?_
  obtain ⟨rfl, q⟩ := hp
  refine W.chunk ?_
  simp (disch := first|omega|exact zE rfl|exact zO|exact zL rfl) [c33_o19, zG, q, gm', gx', lm, lx, l0, ea, ea', eb, eb', e0, e0', hw, es, -evDraw_c, evDraw_0]
  exact kR _ _ (by simp [T.get, q])
theorem c33_l0_ok (J : CallF) (hm : isMat M = true) {H : Heap} {bm bo bx i j k : Nat} {X : Nat → Int} {c : Int} (gm : H.get bm = .cells 0 65 (matC M)) (gx : H.get bx = .cells 0 64 (sq X)) (hi : i < M.length) (hj : j < M.length) :
    Tr tbl J c33_l0 (fun s h => h = H.plus [.cells 0 64 (sq (pP M X c i j 0))] ∧ s.get [true, false] = .ptr bm 0 65 ∧ s.get [true, true] = .slice bo 0 (M.length + 1) (M.length + 1) ∧ s.get [false, false, false] = .ptr bx 0 64 ∧ s.get [true, false, false] = G k ∧ s.get [false, true, false] = .ptr H.size 0 64 ∧ s.get [true, true, false] = G i ∧ s.get [false, false, true] = G j ∧ s.get [true, true, true, false, false] = G M.length ∧ s.get [false, false, false, true, false] = G i ∧ s.get [false, false, true, true, false] = G M.length ∧ s.get [true, false, true, true, false] = G j ∧ s.get [true, false, false, false, true] = G M.length ∧ s.get [false, true, false, false, true] = G ((0 : Nat) : Int)) (.exit 6) (fun s h => h = H.plus [.cells 0 64 (sq (pP M X c i j M.length))] ∧ s.get [true, false] = .ptr bm 0 65 ∧ s.get [true, true] = .slice bo 0 (M.length + 1) (M.length + 1) ∧ s.get [false, false, false] = .ptr bx 0 64 ∧ s.get [true, false, false] = G k ∧ s.get [false, true, false] = .ptr H.size 0 64 ∧ s.get [true, true, false] = G i ∧ s.get [true, true, true, false, false] = G M.length ∧ s.get [false, false, false, true, false] = G i ∧ s.get [false, false, true, true, false] = G M.length ∧ s.get [true, false, true, true, false] = G j) := by
  have h8 := isMat_n hm
  refine Tr.rounds (P := fun l => (fun s h => h = H.plus [.cells 0 64 (sq (pP M X c i j l))] ∧ s.get [true, false] = .ptr bm 0 65 ∧ s.get [true, true] = .slice bo 0 (M.length + 1) (M.length + 1) ∧ s.get [false, false, false] = .ptr bx 0 64 ∧ s.get [true, false, false] = G k ∧ s.get [false, true, false] = .ptr H.size 0 64 ∧ s.get [true, true, false] = G i ∧ s.get [false, false, true] = G j ∧ s.get [true, true, true, false, false] = G M.length ∧ s.get [false, false, false, true, false] = G i ∧ s.get [false, false, true, true, false] = G M.length ∧ s.get [true, false, true, true, false] = G j ∧ s.get [true, false, false, false, true] = G M.length ∧ s.get [false, true, false, false, true] = G l)) (M := M.length) (fun l hl => ?_) ?_ (by simp) 0 (by omega)
  · refine Tr.w fun s1 H1 hp R kR => W.trim ?_
    obtain ⟨rfl, q⟩ := hp
    have t := n33_19 (bo := bo) (k := k) J gm gx (matC_len M) (sq_len X) (matC_at M (i := i) (j := l) (by omega) (by omega)) (sq_get X (i := l * 8 + j) (by omega) rfl) (sq_get (pP M X c i j l) (by omega) (pP_at (by omega))) (sq_len _) (pP_set (by omega) (by omega)) hi hj hl h8.2
    clear gm gx
    generalize sq (pP M X c i j (l + 1)) = c1 at *
    generalize sq (pP M X c i j l) = c0 at *
    generalize M.length = n at *
    refine W.seq (W.chunk ?_)
    simp (disch := first|omega|exact zE rfl|exact zO|exact zL rfl) [c33_o17, zG, q]
    refine W.seq (W.chunk ?_)
    simp (disch := first|omega|exact zE rfl|exact zO|exact zL rfl) [zG, q]
    refine W.seq (W.block ?_)
    refine W.seq (W.chunk ?_)
    simp (disch := first|omega|exact zE rfl|exact zO|exact zL rfl) [c33_o18, zG, q]
    refine W.use (t) (by simp (disch := first|omega|exact zE rfl|exact zO|exact zL rfl) [zG, q]) fun s1 H1 hp => ?_
    obtain ⟨rfl, q⟩ := hp
    try simp only [zW, if_true]
    refine W.chunk ?_
    simp (disch := first|omega|exact zE rfl|exact zO|exact zL rfl) [c33_o20, zG, q]
    exact kR _ _ (by simp [T.get, q])
  · refine Tr.w fun s1 H1 hp R kR => W.trim ?_
    obtain ⟨rfl, q⟩ := hp
    clear gm gx
    generalize M.length = n at *
    refine W.seq (W.chunk ?_)
    simp (disch := first|omega|exact zE rfl|exact zO|exact zL rfl) [c33_o17, zG, q]
    refine W.seq (W.chunk ?_)
    simp (disch := first|omega|exact zE rfl|exact zO|exact zL rfl) [zG, q]
    exact kR _ _ (by simp [T.get, q])
theorem c33_l1_ok (J : CallF) (hm : isMat M = true) {H : Heap} {bm bo bx i k : Nat} {X : Nat → Int} {c : Int} (gm : H.get bm = .cells 0 65 (matC M)) (gx : H.get bx = .cells 0 64 (sq X)) (hi : i < M.length) :
    Tr tbl J c33_l1 (fun s h => h = H.plus [.cells 0 64 (sq (pP M X c i 0 0))] ∧ s.get [true, false] = .ptr bm 0 65 ∧ s.get [true, true] = .slice bo 0 (M.length + 1) (M.length + 1) ∧ s.get [false, false, false] = .ptr bx 0 64 ∧ s.get [true, false, false] = G k ∧ s.get [false, true, false] = .ptr H.size 0 64 ∧ s.get [true, true, false] = G i ∧ s.get [true, true, true, false, false] = G M.length ∧ s.get [false, false, false, true, false] = G i ∧ s.get [false, false, true, true, false] = G M.length ∧ s.get [true, false, true, true, false] = G ((0 : Nat) : Int)) (.exit 4) (fun s h => h = H.plus [.cells 0 64 (sq (pP M X c i M.length 0))] ∧ s.get [true, false] = .ptr bm 0 65 ∧ s.get [true, true] = .slice bo 0 (M.length + 1) (M.length + 1) ∧ s.get [false, false, false] = .ptr bx 0 64 ∧ s.get [true, false, false] = G k ∧ s.get [false, true, false] = .ptr H.size 0 64 ∧ s.get [true, true, false] = G i ∧ s.get [true, true, true, false, false] = G M.length ∧ s.get [false, false, false, true, false] = G i) := by
  have h8 := isMat_n hm
  have e0 : (matC M)[0]? = some (G M.length) := rfl
  have e0' := getI e0
  have lm := matC_len M
  refine Tr.rounds (P := fun j => (fun s h => h = H.plus [.cells 0 64 (sq (pP M X c i j 0))] ∧ s.get [true, false] = .ptr bm 0 65 ∧ s.get [true, true] = .slice bo 0 (M.length + 1) (M.length + 1) ∧ s.get [false, false, false] = .ptr bx 0 64 ∧ s.get [true, false, false] = G k ∧ s.get [false, true, false] = .ptr H.size 0 64 ∧ s.get [true, true, false] = G i ∧ s.get [true, true, true, false, false] = G M.length ∧ s.get [false, false, false, true, false] = G i ∧ s.get [false, false, true, true, false] = G M.length ∧ s.get [true, false, true, true, false] = G j)) (M := M.length) (fun j hj => ?_) ?_ (by simp) 0 (by omega)
  · refine Tr.w fun s1 H1 hp R kR => W.trim ?_
    obtain ⟨rfl, q⟩ := hp
    have l0 := c33_l0_ok (bo := bo) (k := k) (c := c) J hm gm gx hi hj
    rw [pP_h] at l0
    have gm' := fun c => plus_keep [c] gm (by simp)
    clear gx
    generalize sq (pP M X c i (j + 1) 0) = c1 at *
    generalize sq (pP M X c i j 0) = c0 at *
    generalize matC M = cm at *
    generalize M.length = n at *
    refine W.seq (W.chunk ?_)
    simp (disch := first|omega|exact zE rfl|exact zO|exact zL rfl) [c33_o14, zG, q]
    refine W.seq (W.chunk ?_)
    simp (disch := first|omega|exact zE rfl|exact zO|exact zL rfl) [zG, q]
    refine W.seq (W.block ?_)
    refine W.seq (W.chunk ?_)
    simp (disch := first|omega|exact zE rfl|exact zO|exact zL rfl) [c33_o15, zG, q]
    refine W.seq (W.chunk ?_)
    simp (disch := first|omega|exact zE rfl|exact zO|exact zL rfl) [c33_o16, zG, q, gm', e0, e0', lm]
    refine W.block ?_
    refine W.use (l0) (by simp (disch := first|omega|exact zE rfl|exact zO|exact zL rfl) [zG, q]) fun s1 H1 hp => ?_
    obtain ⟨rfl, q⟩ := hp
    try simp only [zW, if_true]
    refine W.chunk ?_
    simp (disch := first|omega|exact zE rfl|exact zO|exact zL rfl) [c33_o21, zG, q]
    exact kR _ _ (by simp [T.get, q])
  · refine Tr.w fun s1 H1 hp R kR => W.trim ?_
    obtain ⟨rfl, q⟩ := hp
    clear gm gx
    generalize M.length = n at *
    refine W.seq (W.chunk ?_)
    simp (disch := first|omega|exact zE rfl|exact zO|exact zL rfl) [c33_o14, zG, q]
    refine W.seq (W.chunk ?_)
    simp (disch := first|omega|exact zE rfl|exact zO|exact zL rfl) [zG, q]
    exact kR _ _ (by simp [T.get, q])
theorem c33_l2_ok (J : CallF) (hm : isMat M = true) {H : Heap} {bm bo bx k : Nat} {X C : Nat → Int} (gm : H.get bm = .cells 0 65 (matC M)) (gx : H.get bx = .cells 0 64 (sq X)) (go : H.get bo = .cells 1 (M.length + 1) (gs (lf C (M.length + 1)))) (hk : k < M.length) :
    Tr tbl J c33_l2 (fun s h => h = H.plus [.cells 0 64 (sq (pP M X (C (M.length - k)) 0 0 0))] ∧ s.get [true, false] = .ptr bm 0 65 ∧ s.get [true, true] = .slice bo 0 (M.length + 1) (M.length + 1) ∧ s.get [false, false, false] = .ptr bx 0 64 ∧ s.get [true, false, false] = G ((k + 1 : Nat) : Int) ∧ s.get [false, true, false] = .ptr H.size 0 64 ∧ s.get [true, true, true, false, false] = G M.length ∧ s.get [false, false, false, true, false] = G ((0 : Nat) : Int)) (.exit 2) (fun s h => h = H.plus [.cells 0 64 (sq (pP M X (C (M.length - k)) M.length 0 0))] ∧ s.get [true, false] = .ptr bm 0 65 ∧ s.get [true, true] = .slice bo 0 (M.length + 1) (M.length + 1) ∧ s.get [false, false, false] = .ptr bx 0 64 ∧ s.get [true, false, false] = G ((k + 1 : Nat) : Int) ∧ s.get [false, true, false] = .ptr H.size 0 64) := by
  have h8 := isMat_n hm
  have e0 : (matC M)[0]? = some (G M.length) := rfl
  have e0' := getI e0
  have lm := matC_len M
  refine Tr.rounds (P := fun i => (fun s h => h = H.plus [.cells 0 64 (sq (pP M X (C (M.length - k)) i 0 0))] ∧ s.get [true, false] = .ptr bm 0 65 ∧ s.get [true, true] = .slice bo 0 (M.length + 1) (M.length + 1) ∧ s.get [false, false, false] = .ptr bx 0 64 ∧ s.get [true, false, false] = G ((k + 1 : Nat) : Int) ∧ s.get [false, true, false] = .ptr H.size 0 64 ∧ s.get [true, true, true, false, false] = G M.length ∧ s.get [false, false, false, true, false] = G i)) (M := M.length) (fun i hi => ?_) ?_ (by simp) 0 (by omega)
  · refine Tr.w fun s1 H1 hp R kR => W.trim ?_
    obtain ⟨rfl, q⟩ := hp
    have l1 := c33_l1_ok (bo := bo) (k := k + 1) (c := C (M.length - k)) J hm gm gx hi
    have ed := sq_get (pP M X (C (M.length - k)) i M.length 0) (i := i * 8 + i) (by omega) (pP_dgat hi h8.2)
    have es := pP_dg (M := M) (X := X) (c := C (M.length - k)) hi h8.2
    have ec : (gs (lf C (M.length + 1)))[M.length - k]? = some (G (C (M.length - k))) := gl_at C (by omega)
    have lc := gl_len C (M.length + 1)
    have l2 := sq_len (pP M X (C (M.length - k)) i M.length 0)
    have ed' := getI ed
    have ec' := getI ec
    have gm' := fun c => plus_keep [c] gm (by simp)
    have go' := fun c => plus_keep [c] go (by simp)
    have hix : ((M.length : Int) - (k : Int)).toNat = M.length - k := by omega
    have hsub : (M.length : Int) - ((k : Int) + 1) + 1 = (M.length : Int) - k := by omega
    clear gx gm go
    generalize C (M.length - k) = c at *
    generalize hz : w6 (sP M X i i M.length) = z at *
    generalize sq (pP M X c (i + 1) 0 0) = c2 at *
    generalize sq (pP M X c i M.length 0) = c1 at *
    generalize sq (pP M X c i 0 0) = c0 at *
    generalize gs (lf C (M.length + 1)) = co at *
    generalize matC M = cm at *
    generalize M.length = n at *
    refine W.seq (W.chunk ?_)
    simp (disch := first|omega|exact zE rfl|exact zO|exact zL rfl) [c33_o11, zG, q]
    refine W.seq (W.chunk ?_)
    simp (disch := first|omega|exact zE rfl|exact zO|exact zL rfl) [zG, q]
    refine W.seq (W.block ?_)
    refine W.seq (W.chunk ?_)
    simp (disch := first|omega|exact zE rfl|exact zO|exact zL rfl) [c33_o12, zG, q]
    refine W.assoc ?_
    refine W.seq (W.chunk ?_)
    simp (disch := first|omega|exact zE rfl|exact zO|exact zL rfl) [c33_o13, zG, q, gm', e0, e0', lm]
    refine W.seq (W.block ?_)
    refine W.use (l1) (by simp (disch := first|omega|exact zE rfl|exact zO|exact zL rfl) [zG, q]) fun s1 H1 hp => ?_
    obtain ⟨rfl, q⟩ := hp
    try simp only [zW, if_true]
    refine W.chunk ?_
    simp (disch := first|omega|exact zE rfl|exact zO|exact zL rfl) [c33_o22, zG, q, gm', go', e0, e0', lm, ed, ed', ec, ec', lc, l2, hix, hsub, es, -evDraw_c, evDraw_0]
    refine W.chunk ?_
    simp (disch := first|omega|exact zE rfl|exact zO|exact zL rfl) [c33_o23, zG, q]
    exact kR _ _ (by simp [T.get, q])
  · refine Tr.w fun s1 H1 hp R kR => W.trim ?_
    obtain ⟨rfl, q⟩ := hp
    clear gm gx go
    generalize M.length = n at *
    refine W.seq (W.chunk ?_)
    simp (disch := first|omega|exact zE rfl|exact zO|exact zL rfl) [c33_o11, zG, q]
    refine W.seq (W.chunk ?_)
    simp (disch := first|omega|exact zE rfl|exact zO|exact zL rfl) [zG, q]
    exact kR _ _ (by simp [T.get, q])
theorem c33_l3_ok (J : CallF) (hm : isMat M = true) {H : Heap} {bm bo bx i k : Nat} {X : Nat → Int} {S : Int} (gm : H.get bm = .cells 0 65 (matC M)) (gx : H.get bx = .cells 0 64 (sq X)) (hi : i < M.length) :
    Tr tbl J c33_l3 (fun s h => h = H ∧ s.get [true, false] = .ptr bm 0 65 ∧ s.get [true, true] = .slice bo 0 (M.length + 1) (M.length + 1) ∧ s.get [false, false, false] = .ptr bx 0 64 ∧ s.get [true, false, false] = G k ∧ s.get [false, true, true] = G (w6 (S + tI M X i 0)) ∧ s.get [true, true, true] = G i ∧ s.get [false, true, true, true, true, false] = G M.length ∧ s.get [true, true, true, true, true, false] = G i ∧ s.get [true, true, false, false, false, true] = G M.length ∧ s.get [false, false, true, false, false, true] = G ((0 : Nat) : Int)) (.exit 10) (fun s h => h = H ∧ s.get [true, false] = .ptr bm 0 65 ∧ s.get [true, true] = .slice bo 0 (M.length + 1) (M.length + 1) ∧ s.get [false, false, false] = .ptr bx 0 64 ∧ s.get [true, false, false] = G k ∧ s.get [false, true, true] = G (w6 (S + tI M X i M.length)) ∧ s.get [false, true, true, true, true, false] = G M.length ∧ s.get [true, true, true, true, true, false] = G i) := by
  have h8 := isMat_n hm
  refine Tr.rounds (P := fun l => (fun s h => h = H ∧ s.get [true, false] = .ptr bm 0 65 ∧ s.get [true, true] = .slice bo 0 (M.length + 1) (M.length + 1) ∧ s.get [false, false, false] = .ptr bx 0 64 ∧ s.get [true, false, false] = G k ∧ s.get [false, true, true] = G (w6 (S + tI M X i l)) ∧ s.get [true, true, true] = G i ∧ s.get [false, true, true, true, true, false] = G M.length ∧ s.get [true, true, true, true, true, false] = G i ∧ s.get [true, true, false, false, false, true] = G M.length ∧ s.get [false, false, true, false, false, true] = G l)) (M := M.length) (fun l hl => ?_) ?_ (by simp) 0 (by omega)
  · refine Tr.w fun s1 H1 hp R kR => W.trim ?_
    obtain ⟨rfl, q⟩ := hp
    have ea := matC_at M (i := i) (j := l) (by omega) (by omega)
    have eb := sq_get X (i := l * 8 + i) (by omega) rfl
    have ea' := getI ea
    have eb' := getI eb
    have lm := matC_len M
    have lx := sq_len X
    have te : tI M X i (l + 1) = tI M X i l + ent M i l * X (l * 8 + i) := rfl
    have hw : IntKind.i64.wrap (IntKind.i64.wrap (S + tI M X i l) + IntKind.i64.wrap (ent M i l * X (l * 8 + i))) = IntKind.i64.wrap (S + tI M X i (l + 1)) := by
      rw [te, ← Int.add_assoc]; exact w6_add _ _
    generalize tI M X i (l + 1) = t1 at *
    generalize tI M X i l = t0 at *
    generalize ent M i l = a at *
    generalize X (l * 8 + i) = b at *
    generalize sq X = cx at *
    generalize matC M = cm at *
    generalize M.length = n at *
    refine W.seq (W.chunk ?_)
    simp (disch := first|omega|exact zE rfl|exact zO|exact zL rfl) [c33_o30, zG, q]
    refine W.seq (W.chunk ?_)
    simp (disch := first|omega|exact zE rfl|exact zO|exact zL rfl) [zG, q]
    refine W.seq (W.block ?_)
    refine W.seq (W.chunk ?_)
    simp (disch := first|omega|exact zE rfl|exact zO|exact zL rfl) [c33_o31, zG, q]
    refine W.chunk ?_
    simp (disch := first|omega|exact zE rfl|exact zO|exact zL rfl) [c33_o32, zG, q, gm, gx, ea, ea', eb, eb', lm, lx, hw, -evDraw_c, evDraw_0]
    refine W.chunk ?_
    simp (disch := first|omega|exact zE rfl|exact zO|exact zL rfl) [c33_o33, zG, q]
    exact kR _ _ (by simp [T.get, q])
  · refine Tr.w fun s1 H1 hp R kR => W.trim ?_
    obtain ⟨rfl, q⟩ := hp
    clear gm gx
    generalize M.length = n at *
    refine W.seq (W.chunk ?_)
    simp (disch := first|omega|exact zE rfl|exact zO|exact zL rfl) [c33_o30, zG, q]
    refine W.seq (W.chunk ?_)
    simp (disch := first|omega|exact zE rfl|exact zO|exact zL rfl) [zG, q]
    exact kR _ _ (by simp [T.get, q])
theorem c33_l4_ok (J : CallF) (hm : isMat M = true) {H : Heap} {bm bo bx k : Nat} {X : Nat → Int} (gm : H.get bm = .cells 0 65 (matC M)) (gx : H.get bx = .cells 0 64 (sq X)) :
    Tr tbl J c33_l4 (fun s h => h = H ∧ s.get [true, false] = .ptr bm 0 65 ∧ s.get [true, true] = .slice bo 0 (M.length + 1) (M.length + 1) ∧ s.get [false, false, false] = .ptr bx 0 64 ∧ s.get [true, false, false] = G k ∧ s.get [false, true, true] = G (w6 (tJ M X 0)) ∧ s.get [false, true, true, true, true, false] = G M.length ∧ s.get [true, true, true, true, true, false] = G ((0 : Nat) : Int)) (.exit 8) (fun s h => h = H ∧ s.get [true, false] = .ptr bm 0 65 ∧ s.get [true, true] = .slice bo 0 (M.length + 1) (M.length + 1) ∧ s.get [false, false, false] = .ptr bx 0 64 ∧ s.get [true, false, false] = G k ∧ s.get [false, true, true] = G (w6 (tJ M X M.length))) := by
  have h8 := isMat_n hm
  have e0 : (matC M)[0]? = some (G M.length) := rfl
  have e0' := getI e0
  have lm := matC_len M
  refine Tr.rounds (P := fun i => (fun s h => h = H ∧ s.get [true, false] = .ptr bm 0 65 ∧ s.get [true, true] = .slice bo 0 (M.length + 1) (M.length + 1) ∧ s.get [false, false, false] = .ptr bx 0 64 ∧ s.get [true, false, false] = G k ∧ s.get [false, true, true] = G (w6 (tJ M X i)) ∧ s.get [false, true, true, true, true, false] = G M.length ∧ s.get [true, true, true, true, true, false] = G i)) (M := M.length) (fun i hi => ?_) ?_ (by simp) 0 (by omega)
  · refine Tr.w fun s1 H1 hp R kR => W.trim ?_
    obtain ⟨rfl, q⟩ := hp
    have l3 := c33_l3_ok (bo := bo) (k := k) (S := tJ M X i) J hm gm gx hi
    rw [show tJ M X i + tI M X i M.length = tJ M X (i + 1) from rfl, show tJ M X i + tI M X i 0 = tJ M X i from Int.add_zero _] at l3
    clear gx
    generalize tJ M X (i + 1) = t1 at *
    generalize tJ M X i = t0 at *
    generalize matC M = cm at *
    generalize M.length = n at *
    refine W.seq (W.chunk ?_)
    simp (disch := first|omega|exact zE rfl|exact zO|exact zL rfl) [c33_o27, zG, q]
    refine W.seq (W.chunk ?_)
    simp (disch := first|omega|exact zE rfl|exact zO|exact zL rfl) [zG, q]
    refine W.seq (W.block ?_)
    refine W.seq (W.chunk ?_)
    simp (disch := first|omega|exact zE rfl|exact zO|exact zL rfl) [c33_o28, zG, q]
    refine W.seq (W.chunk ?_)
    simp (disch := first|omega|exact zE rfl|exact zO|exact zL rfl) [c33_o29, zG, q, gm, e0, e0', lm]
    refine W.block ?_
    refine W.use (l3) (by simp (disch := first|omega|exact zE rfl|exact zO|exact zL rfl) [zG, q]) fun s1 H1 hp => ?_
    obtain ⟨rfl, q⟩ := hp
    try simp only [zW, if_true]
    refine W.chunk ?_
    simp (disch := first|omega|exact zE rfl|exact zO|exact zL rfl) [c33_o34, zG, q]
    exact kR _ _ (by simp [T.get, q])
  · refine Tr.w fun s1 H1 hp R kR => W.trim ?_
    obtain ⟨rfl, q⟩ := hp
    clear gm gx
    generalize M.length = n at *
    refine W.seq (W.chunk ?_)
    simp (disch := first|omega|exact zE rfl|exact zO|exact zL rfl) [c33_o27, zG, q]
    refine W.seq (W.chunk ?_)
    simp (disch := first|omega|exact zE rfl|exact zO|exact zL rfl) [zG, q]
    exact kR _ _ (by simp [T.get, q])
end
section
variable {M : List (List Int)}
structure PS (h H : Heap) (M : List (List Int)) (k : Nat) : Prop where
  kp : Kp (fun _ => False) (frameOf h) H
  sz : h.size + 3 ≤ H.size
  gm : H.get h.size = .cells 0 65 (matC M)
  go : H.get (h.size + 1) = .cells 1 (M.length + 1) (gs (lf (pQ M k).2 (M.length + 1)))
  gx : H.get (h.size + 2) = .cells 0 64 (sq (pQ M k).1)
theorem pQ_set {k : Nat} (hk : k < M.length) : (gs (lf (pQ M k).2 (M.length + 1))).set (M.length - (k + 1)) (G (cf (k + 1) (tJ M (pQ M (k + 1)).1 M.length))) = gs (lf (pQ M (k + 1)).2 (M.length + 1)) := by
  rw [gl_set _ _ _ _ (by omega)]
  congr 1
theorem c33_step (J : CallF) (h : Heap) (hm : isMat M = true) {k : Nat} (hk : k < M.length) : Tr tbl J (.trim [[true, false], [true, true], [false, false, false], [true, false, false]] c33_b5) (fun s H => PS h H M k ∧ s.get [true, false] = .ptr h.size 0 65 ∧ s.get [true, true] = .slice (h.size + 1) 0 (M.length + 1) (M.length + 1) ∧ s.get [false, false, false] = .ptr (h.size + 2) 0 64 ∧ s.get [true, false, false] = G ((k + 1 : Nat) : Int)) .normal
    (fun s H => PS h H M (k + 1) ∧ s.get [true, false] = .ptr h.size 0 65 ∧ s.get [true, true] = .slice (h.size + 1) 0 (M.length + 1) (M.length + 1) ∧ s.get [false, false, false] = .ptr (h.size + 2) 0 64 ∧ s.get [true, false, false] = G ((k + 1 + 1 : Nat) : Int)) := by
  have h8 := isMat_n hm
  refine Tr.w fun s1 H1 hp R kR => W.trim ?_
  obtain ⟨ps, q⟩ := hp
  obtain ⟨kp, sz, gm, go, gx⟩ := ps
  have e0 : (matC M)[0]? = some (G M.length) := rfl
  have e0' := getI e0
  have lm := matC_len M
  have l2 := c33_l2_ok (bo := h.size + 1) J hm gm gx go hk
  rw [pP_0, pP_all, show nxX M (pQ M k).1 ((pQ M k).2 (M.length - k)) = (pQ M (k + 1)).1 from rfl] at l2
  have rp := sq_rep
  have lz := sq_len fun _ => 0
  have N1 : H1.N = h.size := kp.N
  have g1 : (H1.plus [.cells 0 64 (sq (pQ M (k + 1)).1)]).get H1.size = .cells 0 64 (sq (pQ M (k + 1)).1) := plus_at0 _ _ _ _ rfl
  have k1 : Kp (fun _ => False) (frameOf h) (H1.plus [.cells 0 64 (sq (pQ M (k + 1)).1)]) := kp.trans (Kp.plus _ _)
  have gm1 := plus_keep [.cells 0 64 (sq (pQ M (k + 1)).1)] gm (by simp)
  have gm0 := plus_keep [.cells 0 64 (sq fun _ => 0)] gm (by simp)
  have go1 := plus_keep [.cells 0 64 (sq (pQ M (k + 1)).1)] go (by simp)
  have gx1 := plus_keep [.cells 0 64 (sq (pQ M (k + 1)).1)] gx (by simp)
  have s1 : h.size + 3 ≤ (H1.plus [.cells 0 64 (sq (pQ M (k + 1)).1)]).size := by rw [plus_size]; omega
  have n1 : (H1.plus [.cells 0 64 (sq (pQ M (k + 1)).1)]).N = h.size := N1
  clear gx go
  generalize hHa : H1.plus [.cells 0 64 (sq (pQ M (k + 1)).1)] = Ha at *
  have fs : (frameOf h).size = h.size := by simp [frameOf, Heap.size]
  have p1 := put_gen Ha (h.size + 2) 64 0 0 (sq (pQ M k).1) (sq (pQ M (k + 1)).1) (by omega) gx1 (by rw [sq_len, sq_len]; omega)
  rw [show putAt (sq (pQ M k).1) 0 (sq (pQ M (k + 1)).1) = sq (pQ M (k + 1)).1 from putAt_all _ _ (by rw [sq_len, sq_len])] at p1
  have k2 : Kp (fun _ => False) (frameOf h) (Ha.upd (h.size + 2) (.cells 0 64 (sq (pQ M (k + 1)).1))) := k1.updn _ _ (by omega) (by omega)
  have gm2 : (Ha.upd (h.size + 2) (.cells 0 64 (sq (pQ M (k + 1)).1))).get h.size = .cells 0 65 (matC M) := by rw [upd_ne _ _ _ _ (by omega) (by omega)]; exact gm1
  have go2 : (Ha.upd (h.size + 2) (.cells 0 64 (sq (pQ M (k + 1)).1))).get (h.size + 1) = .cells 1 (M.length + 1) (gs (lf (pQ M k).2 (M.length + 1))) := by rw [upd_ne _ _ _ _ (by omega) (by omega)]; exact go1
  have gx2 : (Ha.upd (h.size + 2) (.cells 0 64 (sq (pQ M (k + 1)).1))).get (h.size + 2) = .cells 0 64 (sq (pQ M (k + 1)).1) := upd_same _ _ _ (by omega) (by omega)
  have s2 : h.size + 3 ≤ (Ha.upd (h.size + 2) (.cells 0 64 (sq (pQ M (k + 1)).1))).size := by rw [upd_size]; exact s1
  have n2 : (Ha.upd (h.size + 2) (.cells 0 64 (sq (pQ M (k + 1)).1))).N = h.size := n1
  generalize hHb : Ha.upd (h.size + 2) (.cells 0 64 (sq (pQ M (k + 1)).1)) = Hb at *
  have l4 := c33_l4_ok (bo := h.size + 1) (k := k + 1) J hm gm2 gx2
  rw [show tJ M (pQ M (k + 1)).1 0 = 0 from rfl, w6_0] at l4
  have es := pQ_set hk
  have p2 := put_gen Hb (h.size + 1) (M.length + 1) (M.length - (k + 1)) 1 (gs (lf (pQ M k).2 (M.length + 1))) [G (cf (k + 1) (tJ M (pQ M (k + 1)).1 M.length))] (by omega) go2 (by rw [gl_len]; show M.length - (k + 1) + 1 ≤ M.length + 1; omega)
  rw [show putAt (gs (lf (pQ M k).2 (M.length + 1))) (M.length - (k + 1)) [G (cf (k + 1) (tJ M (pQ M (k + 1)).1 M.length))] = gs (lf (pQ M (k + 1)).2 (M.length + 1)) from es] at p2
  have k3 : Kp (fun _ => False) (frameOf h) (Hb.upd (h.size + 1) (.cells 1 (M.length + 1) (gs (lf (pQ M (k + 1)).2 (M.length + 1))))) := k2.updn _ _ (by omega) (by omega)
  have ps3 : PS h (Hb.upd (h.size + 1) (.cells 1 (M.length + 1) (gs (lf (pQ M (k + 1)).2 (M.length + 1))))) M (k + 1) := ⟨k3, by rw [upd_size]; exact s2, by rw [upd_ne _ _ _ _ (by omega) (by omega)]; exact gm2, upd_same _ _ _ (by omega) (by omega), by rw [upd_ne _ _ _ _ (by omega) (by omega)]; exact gx2⟩
  generalize hHc : Hb.upd (h.size + 1) (.cells 1 (M.length + 1) (gs (lf (pQ M (k + 1)).2 (M.length + 1)))) = Hc at *
  have hc : IntKind.i64.wrap ((IntKind.i64.wrap (-w6 (tJ M (pQ M (k + 1)).1 M.length))).tdiv ((k : Int) + 1)) = cf (k + 1) (tJ M (pQ M (k + 1)).1 M.length) := by unfold cf; rw [Int.zero_sub]; rfl
  have hix : ((M.length : Int) - ((k : Int) + 1)).toNat = M.length - (k + 1) := by omega
  have et : (sq (pQ M (k + 1)).1).take 64 = sq (pQ M (k + 1)).1 := List.take_of_length_le (by rw [sq_len]; exact Nat.le_refl _)
  have lx := sq_len (pQ M (k + 1)).1
  generalize cf (k + 1) (tJ M (pQ M (k + 1)).1 M.length) = cc at *
  generalize w6 (tJ M (pQ M (k + 1)).1 M.length) = Tv at *
  clear kp k1 k2 k3 gx1 gx2 go1 go2 es
  generalize sq (pQ M (k + 1)).1 = X1 at *
  generalize sq (fun _ => 0) = z0 at *
  generalize gs (lf (pQ M k).2 (M.length + 1)) = co at *
  generalize matC M = cm at *
  generalize M.length = n at *
  have km : ¬ (k : Int) + 1 = 0 := by omega
  refine W.assoc ?_
  refine W.seq (W.chunk ?_)
  simp (disch := first|omega|exact zE rfl|exact zO|exact zL rfl) [-List.reduceReplicate, c33_o8, zG, q, gm, e0, e0', lm]
  refine W.seq (W.chunk ?_)
  simp (disch := first|omega|exact zE rfl|exact zO|exact zL rfl) [-List.reduceReplicate, zG, q]
  refine W.seq (W.block ?_)
  refine W.seq (W.chunk ?_)
  simp (disch := first|omega|exact zE rfl|exact zO|exact zL rfl) [-List.reduceReplicate, c33_o9, zG, q, rp, lz]
  refine W.assoc ?_
  refine W.seq (W.chunk ?_)
  simp (disch := first|omega|exact zE rfl|exact zO|exact zL rfl) [-List.reduceReplicate, c33_o10, zG, q, gm0, gm, e0, e0', lm]
  refine W.seq (W.block ?_)
  refine W.use (l2) (by simp (disch := first|omega|exact zE rfl|exact zO|exact zL rfl) [-List.reduceReplicate, zG, q]) fun s1 H1 hp => ?_
  obtain ⟨rfl, q⟩ := hp
  try simp only [zW, if_true]
  refine W.seq (W.chunk ?_)
  simp (disch := first|omega|exact zE rfl|exact zO|exact zL rfl) [-List.reduceReplicate, c33_o24, zG, q, hHa, g1, et, lx, p1]
  refine W.seq (W.chunk ?_)
  simp (disch := first|omega|exact zE rfl|exact zO|exact zL rfl) [-List.reduceReplicate, c33_o25, zG, q]
  refine W.assoc ?_
  refine W.seq (W.chunk ?_)
  simp (disch := first|omega|exact zE rfl|exact zO|exact zL rfl) [-List.reduceReplicate, c33_o26, zG, q, gm2, e0, e0', lm]
  refine W.seq (W.block ?_)
  refine W.use (l4) (by simp (disch := first|omega|exact zE rfl|exact zO|exact zL rfl) [-List.reduceReplicate, zG, q]) fun s1 H1 hp => ?_
  obtain ⟨rfl, q⟩ := hp
  try simp only [zW, if_true]
  refine W.chunk ?_
  simp (disch := first|omega|exact zE rfl|exact zO|exact zL rfl) [-List.reduceReplicate, c33_o35, zG, q, gm2, e0, e0', lm, hix, hc, km, p2, -evDraw_c, evDraw_0]
  refine W.chunk ?_
  simp (disch := first|omega|exact zE rfl|exact zO|exact zL rfl) [-List.reduceReplicate, c33_o36, zG, q]
  exact kR _ _ ⟨ps3, by simp [T.get, q]⟩
theorem c33_l5_ok (J : CallF) (h : Heap) (hm : isMat M = true) : Tr tbl J c33_l5 (fun s H => PS h H M 0 ∧ s.get [true, false] = .ptr h.size 0 65 ∧ s.get [true, true] = .slice (h.size + 1) 0 (M.length + 1) (M.length + 1) ∧ s.get [false, false, false] = .ptr (h.size + 2) 0 64 ∧ s.get [true, false, false] = G ((0 + 1 : Nat) : Int)) (.exit 0)
    (fun s H => PS h H M M.length ∧ s.get [true, true] = .slice (h.size + 1) 0 (M.length + 1) (M.length + 1)) := by
  have h8 := isMat_n hm
  refine Tr.rounds (P := fun k s H => PS h H M k ∧ s.get [true, false] = .ptr h.size 0 65 ∧ s.get [true, true] = .slice (h.size + 1) 0 (M.length + 1) (M.length + 1) ∧ s.get [false, false, false] = .ptr (h.size + 2) 0 64 ∧ s.get [true, false, false] = G ((k + 1 : Nat) : Int)) (M := M.length) (fun k hk => c33_step J h hm hk) ?_ (by simp) 0 (by omega)
  refine Tr.w fun s1 H1 hp R kR => W.trim ?_
  obtain ⟨ps, q⟩ := hp
  have gm := ps.gm
  have e0 : (matC M)[0]? = some (G M.length) := rfl
  have e0' := getI e0
  have lm := matC_len M
  refine W.assoc ?_
  refine W.seq (W.chunk ?_)
  simp (disch := first|omega|exact zE rfl|exact zO|exact zL rfl) [c33_o8, zG, q, gm, e0, e0', lm]
  refine W.seq (W.chunk ?_)
  simp (disch := first|omega|exact zE rfl|exact zO|exact zL rfl) [zG, q]
  exact kR _ _ ⟨ps, by simp [T.get, q]⟩
theorem c33_bad (J : CallF) (k54 : K54 J) (hJ : ∀ a h, J 33 a h = none) (h : Heap) {y : AV} (hy : MR h y M) (hm : isMat M = false) : CallsTo tbl J 33 [y] h (.tup [.nils, G 2], [], false) := by
  refine Tr.fnv (cf := c33) (e := .ret) (s := T.set .leaf [] y) (by decide) rfl (hJ _ _) rfl rfl rfl (by simp) ?_
  obtain ⟨cs, k54, hl, hc⟩ := k54 ⟨h.get, h.size, []⟩ y M (hy.lo [])
  have rp : (List.replicate 65 (AV.int .i64 0)).length = 65 := List.length_replicate
  have ep : putAt (List.replicate 65 (AV.int .i64 0)) 0 cs = cs := putAt_all _ _ (by omega)
  refine Tr.w fun s1 H1 hp R kR => ?_
  obtain ⟨rfl, rfl⟩ := hp
  have q : True := trivial
  generalize hZ : List.replicate 65 (AV.int .i64 0) = Z at *
  rw [hm] at k54
  refine W.seq (W.chunk ?_)
  simp (disch := first|omega|exact zE rfl|exact zO|exact zL rfl) [-List.reduceReplicate, c33_o0, size_mk, get_mk_lt, get_mk_ge, frameOf, Eff.app, Heap.setOwn, q]
  refine W.seq (W.chunk ?_)
  simp (disch := first|omega|exact zE rfl|exact zO|exact zL rfl) [-List.reduceReplicate, c33_o1, size_mk, get_mk_lt, get_mk_ge, frameOf, Eff.app, Heap.setOwn, q, k54, hZ, ep, rp, hl, frameOf]
  refine W.assoc ?_
  refine W.seq (W.chunk ?_)
  simp (disch := first|omega|exact zE rfl|exact zO|exact zL rfl) [-List.reduceReplicate, c33_o2, size_mk, get_mk_lt, get_mk_ge, frameOf, Eff.app, Heap.setOwn, q]
  refine W.seq (W.chunk ?_)
  simp (disch := first|omega|exact zE rfl|exact zO|exact zL rfl) [-List.reduceReplicate, c33_o3, size_mk, get_mk_lt, get_mk_ge, frameOf, Eff.app, Heap.setOwn, q]
  exact kR _ _ ⟨[.nils, G 2], by simp [T.get, c33, evRess, evRes], rfl⟩
theorem c33_ok (J : CallF) (k54 : K54 J) (hJ : ∀ a h, J 33 a h = none) (h : Heap) {y : AV} (hy : MR h y M) (hm : isMat M = true) : ∃ v own, CallsTo tbl J 33 [y] h (v, own, false) ∧ ∃ w, v = .tup [w, G 0] ∧ NG h (h.plus own) w (pyL M) := by
  refine Tr.fny (cf := c33) (e := .ret) (s := T.set .leaf [] y) (by decide) rfl (hJ _ _) rfl rfl (by simp) ?_
  obtain ⟨cs, k54, hl, hc⟩ := k54 ⟨h.get, h.size, []⟩ y M (hy.lo [])
  have rp : (List.replicate 65 (AV.int .i64 0)).length = 65 := List.length_replicate
  obtain rfl := hc hm
  have ep : putAt (List.replicate 65 (AV.int .i64 0)) 0 (matC M) = matC M := putAt_all _ _ (by omega)
  have h8 := isMat_n hm
  have e0 : (matC M)[0]? = some (G M.length) := rfl
  have e0' := getI e0
  have mk1 := fun H => mkSl_ok H 8 (G 0) (M.length + 1) ((M.length : Int) + 1) (by omega) (by omega)
  have rg := gl_rep (M.length + 1)
  have lg := gl_len (fun _ => 0) (M.length + 1)
  have es : (gs (lf (fun _ => 0) (M.length + 1))).set M.length (G 1) = gs (lf (pQ M 0).2 (M.length + 1)) := by
    rw [gl_set _ _ _ _ (by omega)]
    congr 1
  have rs := sq_rep
  have lz := sq_len fun _ => 0
  have lo := c33_l5_ok (M := M) J h hm
  have ps0 : PS h ⟨h.get, h.size, [.cells 0 65 (matC M), .cells 1 (M.length + 1) (gs (lf (pQ M 0).2 (M.length + 1))), .cells 0 64 (sq fun _ => 0)]⟩ M 0 :=
    ⟨Kp.plus (frameOf h) [.cells 0 65 (matC M), .cells 1 (M.length + 1) (gs (lf (pQ M 0).2 (M.length + 1))), .cells 0 64 (sq fun _ => 0)], by simp [Heap.size], by rw [get_mk_ge _ _ _ _ (by omega)]; simp, by rw [get_mk_ge _ _ _ _ (by omega)]; simp, by rw [get_mk_ge _ _ _ _ (by omega)]; simp [pQ]⟩
  refine Tr.w fun s1 H1 hp R kR => ?_
  obtain ⟨rfl, rfl⟩ := hp
  have q : True := trivial
  generalize hZ : List.replicate 65 (AV.int .i64 0) = Z at *
  rw [hm] at k54
  refine W.seq (W.chunk ?_)
  simp (disch := first|omega|exact zE rfl|exact zO|exact zL rfl) [-List.reduceReplicate, c33_o0, size_mk, get_mk_lt, get_mk_ge, frameOf, Eff.app, Heap.setOwn, q]
  refine W.seq (W.chunk ?_)
  simp (disch := first|omega|exact zE rfl|exact zO|exact zL rfl) [-List.reduceReplicate, c33_o1, size_mk, get_mk_lt, get_mk_ge, frameOf, Eff.app, Heap.setOwn, q, k54, hZ, ep, rp, hl, frameOf]
  refine W.assoc ?_
  refine W.seq (W.chunk ?_)
  simp (disch := first|omega|exact zE rfl|exact zO|exact zL rfl) [-List.reduceReplicate, c33_o2, size_mk, get_mk_lt, get_mk_ge, frameOf, Eff.app, Heap.setOwn, q]
  refine W.seq (W.chunk ?_)
  simp (disch := first|omega|exact zE rfl|exact zO|exact zL rfl) [-List.reduceReplicate, c33_o3, size_mk, get_mk_lt, get_mk_ge, frameOf, Eff.app, Heap.setOwn, q]
  refine W.seq (W.chunk ?_)
  simp (disch := first|omega|exact zE rfl|exact zO|exact zL rfl) [-List.reduceReplicate, -act, c33_o4, size_mk, get_mk_lt, get_mk_ge, frameOf, Eff.app, Heap.setOwn, q, act_move, act_mkSl, act_fa, act_load, act_bin, mk1, rg, e0, e0', hl]
  refine W.seq (W.chunk ?_)
  simp (disch := first|omega|exact zE rfl|exact zO|exact zL rfl) [-List.reduceReplicate, c33_o5, size_mk, get_mk_lt, get_mk_ge, frameOf, Eff.app, Heap.setOwn, q, e0, e0', hl, lg, es]
  refine W.seq (W.chunk ?_)
  simp (disch := first|omega|exact zE rfl|exact zO|exact zL rfl) [-List.reduceReplicate, c33_o6, size_mk, get_mk_lt, get_mk_ge, frameOf, Eff.app, Heap.setOwn, q, rs]
  refine W.assoc ?_
  refine W.seq (W.chunk ?_)
  simp (disch := first|omega|exact zE rfl|exact zO|exact zL rfl) [-List.reduceReplicate, c33_o7, size_mk, get_mk_lt, get_mk_ge, frameOf, Eff.app, Heap.setOwn, q]
  refine W.seq (W.block ?_)
  refine W.use (lo) (by simp (disch := first|omega|exact zE rfl|exact zO|exact zL rfl) [-List.reduceReplicate, size_mk, get_mk_lt, get_mk_ge, frameOf, Eff.app, Heap.setOwn, q, ps0, lz]) fun s1 H1 hp => ?_
  obtain ⟨ps, q⟩ := hp
  try simp only [zW, if_true]
  refine W.seq (W.chunk ?_)
  simp (disch := first|omega|exact zE rfl|exact zO|exact zL rfl) [-List.reduceReplicate, c33_o37, size_mk, get_mk_lt, get_mk_ge, frameOf, Eff.app, Heap.setOwn, q]
  refine W.ret ?_
  try simp only [zW, if_true]
  have ng : NG (frameOf h) H1 (.slice (h.size + 1) 0 (M.length + 1) (M.length + 1)) (pyL M) := ⟨ps.kp, fun q hq => by cases hq; simp [frameOf, Heap.size], .inr ⟨h.size + 1, by rw [show (gs (pyL M)).length = M.length + 1 from gl_len _ _], by rw [show (gs (pyL M)).length = M.length + 1 from gl_len _ _]; exact ps.go, by rw [ps.kp.N]; simp [frameOf]⟩⟩
  exact kR _ _ ⟨[.slice (h.size + 1) 0 (M.length + 1) (M.length + 1), G 0], by simp [T.get, c33, evRess, evRes, q], _, rfl, ng.fr1⟩
end
def Post33 (a : AM) (h : Heap) (v : AV) (own : List AObj) : Prop := (isMat a.M = false → v = .tup [.nils, G 2] ∧ own = []) ∧ (isMat a.M = true → ∃ w, v = .tup [w, G 0] ∧ NG h (h.plus own) w (pyL a.M))
noncomputable def T18 : CallF := addK tbl T17 33 PreM Post33
theorem t18 : Sound Go.Proofs.Try.prog T18 := Sound.addK follows ok t17 (by decide) _ _
abbrev K33 (J : CallF) : Prop := ∀ (h : Heap) (a : AM), MR h a.y a.M → ∃ v own, J 33 [a.y] h = some (v, own, false) ∧ Post33 a h v own
theorem k54_17 : K54 T17 := fun h y M hy => by
  simp (disch := decide) only [T17, T16, T15, T14, T13, T12, T11, T10, T9, T8, T7, T6, T5, T4, T3, T2, T1, R21, R20, R19, R18, R17, R16, R15, R14, R13, R12, R11, R10, R9, R8, R7, R6, R5, R4, R3, R2, R1, addI_ne, addX_ne, addV_ne, addK_ne]
  exact k54 h y M hy
theorem k33 : K33 T18 := fun h a ha => addK_some (Pre := PreM) (Post := Post33) (fun a args h hp => by
  obtain ⟨hy, rfl⟩ := hp
  have hn : ∀ a h, T17 33 a h = none := (fun _ _ => by simp (disch := decide) only [T17, T16, T15, T14, T13, T12, T11, T10, T9, T8, T7, T6, T5, T4, T3, T2, T1, R21, R20, R19, R18, R17, R16, R15, R14, R13, R12, R11, R10, R9, R8, R7, R6, R5, R4, R3, R2, R1, addI_ne, addX_ne, addV_ne, addK_ne]; rfl)
  cases c : isMat a.M
  · exact ⟨_, _, c33_bad T17 k54_17 hn h hy c, fun _ => ⟨rfl, rfl⟩, fun q => by rw [c] at q; cases q⟩
  · obtain ⟨v, own, e, p⟩ := c33_ok T17 k54_17 hn h hy c
    exact ⟨v, own, e, fun q => (by rw [c] at q; cases q), fun _ => p⟩) a _ h ⟨ha, rfl⟩
structure TQ (H : Heap) (n : Nat) (X : Nat → Int) (q : Nat) (rs : List AV) (p : Nat) : Prop where
  g : H.get q = .cells 1 n rs
  q0 : p < q
  r : ∀ i, i < n → ∃ b, p < b ∧ rs[i]? = some (.slice b 0 n n) ∧ H.get b = .cells 1 n (gs (rwL X n i))
theorem TQ.upd {H : Heap} {n : Nat} {X : Nat → Int} {q : Nat} {rs : List AV} {p : Nat} (t : TQ H n X q rs p) (Y : AObj) (hN : H.N ≤ p) : TQ (H.upd p Y) n X q rs p :=
  ⟨by rw [upd_ne _ _ _ _ hN (by have := t.q0; omega)]; exact t.g, t.q0, fun i hi => by
    obtain ⟨b, e0, e1, e2⟩ := t.r i hi
    exact ⟨b, e0, e1, by rw [upd_ne _ _ _ _ hN (by omega)]; exact e2⟩⟩
section
variable {M : List (List Int)}
end
def Post45 (a : AM) (h : Heap) (v : AV) (own : List AObj) : Prop := NG h (h.plus own) v (pyL a.M)
noncomputable def T19 : CallF := addK tbl T18 45 PreO Post45
theorem t19 : Sound Go.Proofs.Try.prog T19 := Sound.addK follows ok t18 (by decide) _ _
def LT (h : Heap) (x : AV) (A : List (List Int)) : Prop := ∃ rs, ((x = .nils ∧ rs = []) ∨ ∃ b, x = .slice b 0 rs.length rs.length ∧ h.get b = .cells 1 rs.length rs) ∧ rs.length = A.length ∧ ∀ (i : Nat) r, rs[i]? = some r → ∃ l, A[i]? = some l ∧ listOf h r = some l
theorem TB.lt {H0 H : Heap} {x : AV} {N : List (List Int)} (t : TB H0 H x (N.map gs)) : LT H x N := by
  obtain ⟨rs, lv, hl, hr⟩ := t.r
  refine ⟨rs, ?_, by simpa using hl, fun i r hi => ?_⟩
  · rcases lv with l | ⟨b, e, g, _⟩
    · exact .inl l
    · exact .inr ⟨b, e, g⟩
  · obtain ⟨cs, b, h1, h2, h3, _⟩ := hr i r hi
    rw [List.getElem?_map] at h1
    cases hN : N[i]? with
    | none => rw [hN] at h1; cases h1
    | some l =>
      rw [hN] at h1
      simp only [Option.map_some, Option.some.injEq] at h1
      subst h1
      exact ⟨l, rfl, by rw [h2]; exact listOf_cells h3 (by simp)⟩
theorem TG.lt {H0 H : Heap} {x : AV} {N : List (List Int)} (t : TG H0 H x N) : LT H x N := by
  obtain ⟨rs, lv, hl, hr⟩ := t.r
  refine ⟨rs, ?_, hl, fun i r hi => ?_⟩
  · rcases lv with l | ⟨b, e, g, _⟩
    · exact .inl l
    · exact .inr ⟨b, e, g⟩
  · obtain ⟨l, h1, h2, _⟩ := hr i r hi
    exact ⟨l, h1, h2⟩
theorem LT.kp {h h' : Heap} {x : AV} {A : List (List Int)} (t : LT h x A) (k : Kp (fun _ => False) h h') : LT h' x A := by
  obtain ⟨rs, lv, hl, hr⟩ := t
  refine ⟨rs, ?_, hl, fun i r hi => ?_⟩
  · rcases lv with l | ⟨b, e, g⟩
    · exact .inl l
    · exact .inr ⟨b, e, k.at g (by simp) id⟩
  · obtain ⟨l, h1, h2⟩ := hr i r hi
    exact ⟨l, h1, listOf_kp k h2 (fun _ _ => id)⟩
theorem LT.lo {h : Heap} {x : AV} {A : List (List Int)} (t : LT h x A) (own : List AObj) : LT ⟨h.get, h.size, own⟩ x A := by
  obtain ⟨rs, lv, hl, hr⟩ := t
  refine ⟨rs, ?_, hl, fun i r hi => ?_⟩
  · rcases lv with l | ⟨b, e, g⟩
    · exact .inl l
    · exact .inr ⟨b, e, by rw [get_mk_lt _ _ _ _ (get_lt g (by simp))]; exact g⟩
  · obtain ⟨l, h1, h2⟩ := hr i r hi
    exact ⟨l, h1, listOf_at h2 own⟩
section
variable {A B : List (List Int)}
end
structure A47 where
  A : List (List Int)
  B : List (List Int)
  x : AV
  z : AV
def Ok47 (a : A47) (h : Heap) : Prop := LT h a.x a.A ∧ LT h a.z a.B ∧ a.A.length ≤ 1000000 ∧ a.B.length ≤ 1000000 ∧ ∀ l ∈ a.A, l.length ≤ 1000000
def Pre47 (a : A47) (args : List AV) (h : Heap) : Prop := Ok47 a h ∧ args = [a.x, a.z]
def Post47 (a : A47) (h : Heap) (v : AV) (own : List AObj) : Prop := v = .bool (decide (a.A = a.B)) ∧ own = []
noncomputable def T20 : CallF := addK tbl T19 47 Pre47 Post47
theorem t20 : Sound Go.Proofs.Try.prog T20 := Sound.addK follows ok t19 (by decide) _ _
end Go.Proofs.Ytjeemgaoonapgaa.Ev
set_option linter.unusedVariables false
set_option linter.unusedSimpArgs false
namespace Go.Proofs.Ytjeemgaoonapgaa.Ev
open Go Go.AEv
theorem pigeon : ∀ (n : Nat) (f : Nat → Nat), (∀ i, i ≤ n → f i < n) → ∃ i j, i < j ∧ j ≤ n ∧ f i = f j
  | 0, f, h => absurd (h 0 (Nat.le_refl _)) (by omega)
  | n + 1, f, h => by
    by_cases c : ∃ i, i ≤ n ∧ f i = f (n + 1)
    · obtain ⟨i, a, b⟩ := c
      exact ⟨i, n + 1, by omega, Nat.le_refl _, b⟩
    · have c' : ∀ i, i ≤ n → f i ≠ f (n + 1) := fun i a b => c ⟨i, a, b⟩
      obtain ⟨i, j, a1, a2, a3⟩ := pigeon n (fun i => if f i = n then f (n + 1) else f i) (fun i hi => by
        have h1 := h i (by omega)
        have h2 := h (n + 1) (Nat.le_refl _)
        have h3 := c' i hi
        by_cases e : f i = n
        · simp only [e, if_true]; omega
        · simp only [e, if_false]; omega)
      refine ⟨i, j, a1, by omega, ?_⟩
      have h3 := c' i (by omega)
      have h4 := c' j (by omega)
      by_cases e1 : f i = n
      · by_cases e2 : f j = n
        · omega
        · simp only [e1, e2, if_true, if_false] at a3; omega
      · by_cases e2 : f j = n
        · simp only [e1, e2, if_true, if_false] at a3; omega
        · simp only [e1, e2, if_false] at a3; exact a3
section
variable {M : List (List Int)}
theorem Wk.path : ∀ {k i j : Nat}, Wk M k i j → ∃ f : Nat → Nat, f 0 = i ∧ f k = j ∧ ∀ t, t < k → 0 < ent M (f t) (f (t + 1))
  | 0, i, j, h => ⟨fun _ => i, rfl, h, fun t ht => absurd ht (by omega)⟩
  | k + 1, i, j, ⟨v, e, w⟩ => by
    obtain ⟨f, f0, fk, fe⟩ := Wk.path w
    refine ⟨fun t => match t with | 0 => i | t + 1 => f t, rfl, fk, fun t ht => ?_⟩
    cases t with
    | zero => show 0 < ent M i (f 0); rw [f0]; exact e
    | succ t => exact fe t (by omega)
theorem path_wk {f : Nat → Nat} {k : Nat} (fe : ∀ t, t < k → 0 < ent M (f t) (f (t + 1))) : ∀ (d s : Nat), s + d ≤ k → Wk M d (f s) (f (s + d))
  | 0, s, _ => rfl
  | d + 1, s, h => by
    refine ⟨f (s + 1), fe s (by omega), ?_⟩
    have := path_wk fe d (s + 1) (by omega)
    rwa [show s + 1 + d = s + (d + 1) by omega] at this
theorem Wk.short (hm : isMat M = true) {i j : Nat} (hi : i < M.length) : ∀ {k : Nat}, Wk M k i j → ∃ k', k' < M.length ∧ k' ≤ k ∧ Wk M k' i j := by
  intro k
  induction k using Nat.strongRecOn with
  | _ k ih =>
    intro w
    by_cases c : k < M.length
    · exact ⟨k, c, Nat.le_refl _, w⟩
    · obtain ⟨f, f0, fk, fe⟩ := w.path
      have fb : ∀ t, t ≤ M.length → f t < M.length := fun t ht => by
        cases t with
        | zero => rw [f0]; exact hi
        | succ t => exact (ent_lt hm (fe t (by omega))).2
      obtain ⟨a, b, hab, hb, e⟩ := pigeon M.length f fb
      have w1 := path_wk fe a 0 (by omega)
      have w2 := path_wk fe (k - b) b (by omega)
      rw [Nat.zero_add, f0, e] at w1
      rw [show b + (k - b) = k by omega, fk] at w2
      obtain ⟨k', h1, h2, h3⟩ := ih (a + (k - b)) (by omega) (w1.add w2)
      exact ⟨k', h1, by omega, h3⟩
theorem Rc.short (hm : isMat M = true) {i j : Nat} (hi : i < M.length) (h : Rc M i j) : ∃ k, k < M.length ∧ Wk M k i j := by
  obtain ⟨k, w⟩ := h
  obtain ⟨k', a, _, b⟩ := w.short hm hi
  exact ⟨k', a, b⟩
end
end Go.Proofs.Ytjeemgaoonapgaa.Ev
set_option linter.unusedVariables false
set_option linter.unusedSimpArgs false
namespace Go.Proofs.Ytjeemgaoonapgaa.Ev
open Go Go.AEv
attribute [local simp] evFunc initS evOps_c evTrim_c evSkip_c evExit_c evRet_c evSeq_c evCond_c evBlock_c evDraw_c runOps_n runOps_c exec_n exec_g pure1_c act AOpd.ev T.get T.set T.put evBin evUn forceT_eq forceV_eq forceL_eq evRess evRes one keep runFP_n runFP_c app_none AV.flats AV.flat came_some List.getElem?_cons_zero List.getElem?_cons_succ beqT wrapI idxI tdivI tmodI decT decF ibT ibF inT inF evScope_c if_pos if_neg Cm_some thenW_n thenW_e thenW_r blkW_n blkW_e blkW_r goI kn putAt AV.cells fillA loadA takeA mk Eff.isAll Eff.isNone Eff.commutes Eff.spares okPair apart eqAgg fits LK.fits allEq aveq eqk mmA
section
variable {M : List (List Int)}
def Wl (M : List (List Int)) (t i x : Nat) : Prop := ∃ k, k ≤ t ∧ Wk M k i x
structure LI (M : List (List Int)) (i t x y : Nat) (r : Nat → Bool) : Prop where
  s : ∀ z, z < M.length → r z = true → Rc M i z
  c : ∀ z, Wl M t i z → z < M.length → r z = true
  cx : ∀ x', x' < x → Wl M t i x' → ∀ z, 0 < ent M x' z → r z = true
  cy : ∀ z, z < y → Wl M t i x → 0 < ent M x z → r z = true
theorem LI.step {i t x y : Nat} {r : Nat → Bool} (hx : x < M.length) (l : LI M i t x y r) : LI M i t x (y + 1) (fun z => if z = y then (r y || (r x && decide (0 < ent M x y))) else r z) := by
  have up : ∀ z, r z = true → (if z = y then (r y || (r x && decide (0 < ent M x y))) else r z) = true := fun z h => by
    by_cases e : z = y
    · rw [if_pos e, ← e, h, Bool.true_or]
    · rw [if_neg e]; exact h
  refine ⟨fun z hz h => ?_, fun z w hz => up z (l.c z w hz), fun x' a w z e => up z (l.cx x' a w z e), fun z hz w e => ?_⟩
  · by_cases e : z = y
    · rw [if_pos e] at h
      subst e
      rw [Bool.or_eq_true, Bool.and_eq_true, decide_eq_true_eq] at h
      rcases h with h | ⟨h1, h2⟩
      · exact l.s z hz h
      · exact (l.s x hx h1).trans (Rc.one h2)
    · rw [if_neg e] at h; exact l.s z hz h
  · by_cases e' : z = y
    · rw [if_pos e', Bool.or_eq_true]
      subst e'
      exact .inr (by rw [l.c x w hx, decide_eq_true e]; rfl)
    · exact up z (l.cy z (by omega) w e)
theorem LI.done (hm : isMat M = true) {i : Nat} (hi : i < M.length) {r : Nat → Bool} (l : LI M i M.length 0 0 r) {z : Nat} (hz : z < M.length) : r z = ldF M (i * 8 + z) := by
  apply Bool.eq_iff_iff.2
  rw [ldF_iff hm hi hz]
  constructor
  · exact l.s z hz
  · intro h
    obtain ⟨k, a, w⟩ := h.short hm hi
    exact l.c z ⟨k, by omega, w⟩ hz
def ldR (M : List (List Int)) (i : Nat) : List (List AV) := (List.range i).map fun i => bls (fun z => ldF M (i * 8 + z)) M.length
end
def Post69 (a : AM) (h : Heap) (v : AV) (own : List AObj) : Prop := TB h (h.plus own) v (ldR a.M a.M.length)
noncomputable def T21 : CallF := addK tbl T20 69 PreO Post69
theorem t21 : Sound Go.Proofs.Try.prog T21 := Sound.addK follows ok t20 (by decide) _ _
structure LD (H : Heap) (M : List (List Int)) (q : Nat) (rs : List AV) : Prop where
  g : H.get q = .cells 1 M.length rs
  r : ∀ i, i < M.length → ∃ b, rs[i]? = some (.slice b 0 M.length M.length) ∧ H.get b = .cells 1 M.length (bls (fun z => ldF M (i * 8 + z)) M.length)
section
variable {M : List (List Int)}
theorem LD.kp {H H' : Heap} {q : Nat} {rs : List AV} (t : LD H M q rs) (k : Kp (fun _ => False) H H') : LD H' M q rs :=
  ⟨k.at t.g (by simp) id, fun i hi => by obtain ⟨b, e1, e2⟩ := t.r i hi; exact ⟨b, e1, k.at e2 (by simp) id⟩⟩
theorem NG.base {H0 H1 H : Heap} {x : AV} {L : List Int} (k : Kp (fun _ => False) H0 H1) (t : NG H1 H x L) : NG H0 H x L := ⟨k.trans t.k, fun q hq => Nat.le_trans k.size (t.x0 q hq), t.l⟩
end
def Post50 (a : AM) (h : Heap) (v : AV) (own : List AObj) : Prop := NG h (h.plus own) v (clsL a.M)
noncomputable def T22 : CallF := addK tbl T21 50 PreO Post50
theorem t22 : Sound Go.Proofs.Try.prog T22 := Sound.addK follows ok t21 (by decide) _ _
def Post31 (a : AM) (h : Heap) (v : AV) (own : List AObj) : Prop := (isMat a.M = false → v = .tup [.nils, G 2] ∧ own = []) ∧ (isMat a.M = true → ∃ w, v = .tup [w, G 0] ∧ NG h (h.plus own) w (clsL a.M))
noncomputable def T23 : CallF := addK tbl T22 31 PreM Post31
theorem t23 : Sound Go.Proofs.Try.prog T23 := Sound.addK follows ok t22 (by decide) _ _
end Go.Proofs.Ytjeemgaoonapgaa.Ev
set_option linter.unusedVariables false
set_option linter.unusedSimpArgs false
namespace Go.Proofs.Ytjeemgaoonapgaa.Ev
open Go Go.AEv
def PerS (M : List (List Int)) (i p : Nat) : Prop := (∀ k, Wk M k i i → p ∣ k) ∧ ∀ g, (∀ k, Wk M k i i → g ∣ k) → g ∣ p
section
variable {M : List (List Int)}
theorem PerS.eq {i p q : Nat} (a : PerS M i p) (b : PerS M i q) : p = q := Nat.dvd_antisymm (b.2 p a.1) (a.2 q b.1)
theorem cyc_mu {i j g : Nat} (m : Mu M i j) (h : ∀ k, Wk M k i i → g ∣ k) : ∀ k, Wk M k j j → g ∣ k := fun k w => by
  obtain ⟨⟨a, wa⟩, ⟨b, wb⟩⟩ := m
  have h1 := h _ ((wa.add w).add wb)
  have h2 := h _ (wa.add wb)
  have e : k = (a + k + b) - (a + b) := by omega
  rw [e]
  exact Nat.dvd_sub h1 h2
theorem PerS.mu {i j p : Nat} (m : Mu M i j) (h : PerS M i p) : PerS M j p :=
  ⟨cyc_mu m h.1, fun g hg => h.2 g (cyc_mu m.symm hg)⟩
theorem mu_mid {i u v : Nat} (mv : Mu M i v) (hu : Rc M i u) (e : 0 < ent M u v) : Mu M i u := ⟨hu, (Rc.one e).trans mv.2⟩
theorem tele {i p : Nat} {f : Nat → Int} (h1 : ∀ u v, Mu M i u → Mu M i v → 0 < ent M u v → (p : Int) ∣ f u + 1 - f v) : ∀ {k v : Nat}, Mu M i v → Wk M k i v → (p : Int) ∣ f i + k - f v
  | 0, v, m, w => by
    have e : i = v := w
    subst e
    rw [show f i + ((0 : Nat) : Int) - f i = 0 by omega]
    exact Int.dvd_zero _
  | k + 1, v, m, w => by
    obtain ⟨u, w', e⟩ := Wk.snoc.1 w
    have mu := mu_mid m ⟨k, w'⟩ e
    have a := tele h1 mu w'
    have b := h1 u v mu m e
    have := Int.dvd_add a b
    rwa [show f i + (k : Int) - f u + (f u + 1 - f v) = f i + ((k + 1 : Nat) : Int) - f v by omega] at this
theorem edge_dvd {i g u v : Nat} {f : Nat → Int} (hf : ∀ z, Mu M i z → ∃ d : Nat, f z = d ∧ Wk M d i z) (hg : ∀ k, Wk M k i i → g ∣ k) (mu : Mu M i u) (mv : Mu M i v) (e : 0 < ent M u v) : (g : Int) ∣ f u + 1 - f v := by
  obtain ⟨a, ea, wa⟩ := hf u mu
  obtain ⟨b, eb, wb⟩ := hf v mv
  obtain ⟨l, wl⟩ := mv.2
  have h1 := hg _ ((wa.add (Wk.one e)).add wl)
  have h2 := hg _ (wb.add wl)
  have h1' : (g : Int) ∣ ((a + 1 + l : Nat) : Int) := Int.natCast_dvd_natCast.2 h1
  have h2' : (g : Int) ∣ ((b + l : Nat) : Int) := Int.natCast_dvd_natCast.2 h2
  have := Int.dvd_sub h1' h2'
  rw [ea, eb]
  rwa [show ((a + 1 + l : Nat) : Int) - ((b + l : Nat) : Int) = (a : Int) + 1 - b by omega] at this
theorem per_of {i p : Nat} {f : Nat → Int} (f0 : f i = 0) (hf : ∀ z, Mu M i z → ∃ d : Nat, f z = d ∧ Wk M d i z) (h1 : ∀ u v, Mu M i u → Mu M i v → 0 < ent M u v → (p : Int) ∣ f u + 1 - f v) (h2 : ∀ g, (∀ k, Wk M k i i → g ∣ k) → g ∣ p) : PerS M i p := by
  refine ⟨fun k w => ?_, h2⟩
  have := tele h1 (Mu.refl i) w
  rw [show f i + (k : Int) - f i = (k : Int) by omega] at this
  exact Int.natCast_dvd_natCast.1 this
open Classical in
noncomputable def perN (M : List (List Int)) (i : Nat) : Nat := if h : ∃ p, PerS M i p then Classical.choose h else 0
theorem perN_eq {i p : Nat} (h : PerS M i p) : perN M i = p := by
  have hx : ∃ p, PerS M i p := ⟨p, h⟩
  unfold perN
  rw [dif_pos hx]
  exact (Classical.choose_spec hx).eq h
def Fk (M : List (List Int)) (d i z : Nat) : Prop := Wk M d i z ∧ ∀ k, k < d → ¬ Wk M k i z
theorem Fk.eq {d e i z : Nat} (a : Fk M d i z) (b : Fk M e i z) : d = e := by
  rcases Nat.lt_trichotomy d e with h | h | h
  · exact absurd a.1 (b.2 d h)
  · exact h
  · exact absurd b.1 (a.2 e h)
theorem Wk.first {i z : Nat} : ∀ {k : Nat}, Wk M k i z → ∃ d, d ≤ k ∧ Fk M d i z := by
  intro k
  induction k using Nat.strongRecOn with
  | _ k ih =>
    intro w
    by_cases c : ∃ j, j < k ∧ Wk M j i z
    · obtain ⟨j, hj, wj⟩ := c
      obtain ⟨d, hd, f⟩ := ih j hj wj
      exact ⟨d, by omega, f⟩
    · exact ⟨k, Nat.le_refl _, w, fun j hj wj => c ⟨j, hj, wj⟩⟩
open Classical in
noncomputable def dsN (M : List (List Int)) (i z : Nat) : Int := if h : ∃ d, Fk M d i z then ((Classical.choose h : Nat) : Int) else -1
theorem dsN_eq {d i z : Nat} (h : Fk M d i z) : dsN M i z = d := by
  have hx : ∃ d, Fk M d i z := ⟨d, h⟩
  unfold dsN
  rw [dif_pos hx]
  exact congrArg Nat.cast ((Classical.choose_spec hx).eq h)
theorem dsN_no {i z : Nat} (h : ¬ Rc M i z) : dsN M i z = -1 := by
  unfold dsN
  rw [dif_neg]
  rintro ⟨d, f⟩
  exact h ⟨d, f.1⟩
structure DI (M : List (List Int)) (i k x y : Nat) (f : Nat → Int) : Prop where
  a : ∀ z, z < M.length → f z ≠ -1 → ∃ d : Nat, f z = d ∧ Fk M d i z ∧ d ≤ k + 1
  b : ∀ z d, z < M.length → d ≤ k → Fk M d i z → f z = d
  d : ∀ x', x' < x → f x' = k → ∀ z, 0 < ent M x' z → f z ≠ -1
  e : ∀ z, z < y → f x = k → 0 < ent M x z → f z ≠ -1
theorem DI.skip {i k x y : Nat} {f : Nat → Int} (l : DI M i k x y f) (h : f x = k → 0 < ent M x y → f y ≠ -1) : DI M i k x (y + 1) f :=
  ⟨l.a, l.b, l.d, fun z hz q e => by
    by_cases c : z = y
    · subst c; exact h q e
    · exact l.e z (by omega) q e⟩
theorem DI.set (hm : isMat M = true) {i k x y : Nat} {f : Nat → Int} (l : DI M i k x y f) (hx : x < M.length) (hy : y < M.length) (h1 : f x = k) (h2 : 0 < ent M x y) (h3 : f y = -1) : DI M i k x (y + 1) (fun z => if z = y then ((k + 1 : Nat) : Int) else f z) := by
  have keep : ∀ z, f z ≠ -1 → (if z = y then ((k + 1 : Nat) : Int) else f z) ≠ -1 := fun z h => by
    split
    · omega
    · exact h
  obtain ⟨d0, e0, w0, _⟩ := l.a x hx (by rw [h1]; omega)
  have hd0 : d0 = k := by omega
  subst hd0
  have fy : Fk M (d0 + 1) i y := ⟨Wk.snoc.2 ⟨x, w0.1, h2⟩, fun j hj wj => by
    obtain ⟨d, hd, f1⟩ := wj.first
    have := l.b y d hy (by omega) f1
    omega⟩
  refine ⟨fun z hz hne => ?_, fun z d hz hd q => ?_, fun x' hx' q z ez => ?_, fun z hz q ez => ?_⟩
  · by_cases c : z = y
    · subst c
      rw [if_pos rfl]
      exact ⟨d0 + 1, rfl, fy, Nat.le_refl _⟩
    · rw [if_neg c] at hne ⊢
      exact l.a z hz hne
  · by_cases c : z = y
    · subst c
      have := fy.eq q
      omega
    · rw [if_neg c]; exact l.b z d hz hd q
  · by_cases c : x' = y
    · rw [if_pos c] at q; omega
    · rw [if_neg c] at q
      exact keep z (l.d x' hx' q z ez)
  · by_cases c : x = y
    · rw [c] at h1; omega
    · rw [if_neg c] at q
      by_cases c2 : z = y
      · rw [if_pos c2]; omega
      · rw [if_neg c2]; exact l.e z (by omega) q ez
theorem DI.done (hm : isMat M = true) {i : Nat} (hi : i < M.length) {f : Nat → Int} (l : DI M i M.length 0 0 f) {z : Nat} (hz : z < M.length) : f z = dsN M i z := by
  by_cases c : Rc M i z
  · obtain ⟨k, hk, w⟩ := c.short hm hi
    obtain ⟨d, hd, q⟩ := w.first
    rw [dsN_eq q]
    exact l.b z d hz (by omega) q
  · rw [dsN_no c]
    apply Decidable.byContradiction
    intro h
    obtain ⟨d, _, q, _⟩ := l.a z hz h
    exact c ⟨d, q.1⟩
end
end Go.Proofs.Ytjeemgaoonapgaa.Ev
set_option linter.unusedVariables false
set_option linter.unusedSimpArgs false
namespace Go.Proofs.Ytjeemgaoonapgaa.Ev
open Go Go.AEv
attribute [local simp] evFunc initS evOps_c evTrim_c evSkip_c evExit_c evRet_c evSeq_c evCond_c evBlock_c evDraw_c runOps_n runOps_c exec_n exec_g pure1_c act AOpd.ev T.get T.set T.put evBin evUn forceT_eq forceV_eq forceL_eq evRess evRes one keep runFP_n runFP_c app_none AV.flats AV.flat came_some List.getElem?_cons_zero List.getElem?_cons_succ beqT wrapI idxI tdivI tmodI decT decF ibT ibF inT inF evScope_c if_pos if_neg Cm_some thenW_n thenW_e thenW_r blkW_n blkW_e blkW_r goI kn putAt AV.cells fillA loadA takeA mk Eff.isAll Eff.isNone Eff.commutes Eff.spares okPair apart eqAgg fits LK.fits allEq aveq eqk mmA
section
variable {M : List (List Int)}
end
structure AI where
  M : List (List Int)
  y : AV
  i : Nat
def OkI (a : AI) (h : Heap) : Prop := MR h a.y a.M ∧ isMat a.M = true ∧ a.i < a.M.length
def PreI (a : AI) (args : List AV) (h : Heap) : Prop := OkI a h ∧ args = [a.y, G a.i]
def Post71 (a : AI) (h : Heap) (v : AV) (own : List AObj) : Prop := NG h (h.plus own) v (lf (dsN a.M a.i) a.M.length)
noncomputable def T24 : CallF := addK tbl T23 71 PreI Post71
theorem t24 : Sound Go.Proofs.Try.prog T24 := Sound.addK follows ok t23 (by decide) _ _
section
variable {M : List (List Int)}
structure PI (M : List (List Int)) (i0 : Nat) (f : Nat → Int) (x y p : Nat) : Prop where
  g : ∀ g, (∀ k, Wk M k i0 i0 → g ∣ k) → g ∣ p
  d : ∀ u v, (u < x ∨ (u = x ∧ v < y)) → Mu M i0 u → Mu M i0 v → 0 < ent M u v → (p : Int) ∣ f u + 1 - f v
  b : p ≤ 100
theorem PI.skip {i0 x y p : Nat} {f : Nat → Int} (l : PI M i0 f x y p) (h : ¬ (Mu M i0 x ∧ Mu M i0 y ∧ 0 < ent M x y)) : PI M i0 f x (y + 1) p :=
  ⟨l.g, fun u v c mu mv e => by
    by_cases cc : u = x ∧ v = y
    · rw [cc.1, cc.2] at e; rw [cc.1] at mu; rw [cc.2] at mv; exact absurd ⟨mu, mv, e⟩ h
    · exact l.d u v (by omega) mu mv e, l.b⟩
theorem PI.take {i0 x y p : Nat} {f : Nat → Int} (hf : ∀ z, Mu M i0 z → ∃ d : Nat, f z = d ∧ Wk M d i0 z) (l : PI M i0 f x y p) (mx : Mu M i0 x) (my : Mu M i0 y) (e : 0 < ent M x y) (hb : (f x + 1 - f y).natAbs ≤ 100) : PI M i0 f x (y + 1) (Nat.gcd p (f x + 1 - f y).natAbs) := by
  refine ⟨fun g hg => ?_, fun u v c mu mv ee => ?_, ?_⟩
  · refine Nat.dvd_gcd (l.g g hg) ?_
    have := edge_dvd hf hg mx my e
    exact Int.ofNat_dvd_left.1 this
  · by_cases cc : u = x ∧ v = y
    · rw [cc.1, cc.2]
      exact Int.ofNat_dvd_left.2 (Nat.gcd_dvd_right _ _)
    · have h1 := l.d u v (by omega) mu mv ee
      exact Int.dvd_trans (Int.natCast_dvd_natCast.2 (Nat.gcd_dvd_left _ _)) h1
  · by_cases c : p = 0
    · subst c; rw [Nat.gcd_zero_left]; exact hb
    · have := Nat.gcd_le_left (n := (f x + 1 - f y).natAbs) (Nat.pos_of_ne_zero c)
      have := l.b
      omega
theorem PI.done (hm : isMat M = true) {i0 p : Nat} {f : Nat → Int} (f0 : f i0 = 0) (hf : ∀ z, Mu M i0 z → ∃ d : Nat, f z = d ∧ Wk M d i0 z) (l : PI M i0 f M.length 0 p) : PerS M i0 p :=
  per_of f0 hf (fun u v mu mv e => l.d u v (.inl (ent_lt hm e).1) mu mv e) l.g
noncomputable def pdL (M : List (List Int)) : List Int := lf (fun i => (perN M i : Int)) M.length
end
def Post51 (a : AM) (h : Heap) (v : AV) (own : List AObj) : Prop := NG h (h.plus own) v (pdL a.M)
noncomputable def T25 : CallF := addK tbl T24 51 PreO Post51
theorem t25 : Sound Go.Proofs.Try.prog T25 := Sound.addK follows ok t24 (by decide) _ _
theorem W.loop {tbl : Nat → Option CFunc} {I : CallF} {live : List Path} {c : CCode} {s : T} {h : Heap} {Q : PQ} (x : W tbl I (.trim live c) s h (thenW tbl I (.loop live c) Q)) : W tbl I (.loop live c) s h Q := by
  obtain ⟨e, s1, h1, ⟨n, r⟩, q⟩ := x
  cases e with
  | normal =>
    obtain ⟨e2, s2, h2, r2, q2⟩ := q
    exact ⟨e2, s2, h2, Runs.loop_next ⟨n, r⟩ r2, q2⟩
  | exit i => exact ⟨_, s1, h1, Runs.loop_out ⟨n, r⟩ (by simp), q⟩
  | ret => exact ⟨_, s1, h1, Runs.loop_out ⟨n, r⟩ (by simp), q⟩
def cu (f : Nat → Int) : Nat → Nat
  | 0 => 0
  | m + 1 => cu f m + (if f m = -1 then 1 else 0)
theorem cu_congr {f g : Nat → Int} : ∀ {m}, (∀ z, z < m → f z = g z) → cu f m = cu g m
  | 0, _ => rfl
  | m + 1, h => by
    show cu f m + _ = cu g m + _
    rw [cu_congr (fun z hz => h z (by omega)), h m (by omega)]
theorem cu_upd {f : Nat → Int} {y : Nat} {w : Int} (hf : f y = -1) (hw : w ≠ -1) : ∀ {m}, y < m → cu (fun z => if z = y then w else f z) m + 1 = cu f m
  | 0, h => by omega
  | m + 1, h => by
    show cu _ m + (if (if m = y then w else f m) = -1 then 1 else 0) + 1 = cu f m + (if f m = -1 then 1 else 0)
    by_cases e : y = m
    · subst e
      rw [if_pos rfl, if_neg hw, if_pos hf, cu_congr (g := f) (fun z hz => if_neg (by omega))]
    · rw [if_neg (show ¬ m = y from fun e' => e e'.symm)]
      have := cu_upd hf hw (m := m) (by omega)
      omega
section
variable {M : List (List Int)}
structure BI (M : List (List Int)) (i : Nat) (f : Nat → Int) (Q : List Nat) (k v p : Nat) : Prop where
  f0 : f i = 0
  a : ∀ z, z < M.length → f z ≠ -1 → Mu M i z ∧ (∃ d : Nat, f z = d ∧ Wk M d i z) ∧ z ∈ Q
  q : ∀ (j z : Nat), Q[j]? = some z → z < M.length ∧ f z ≠ -1 ∧ f z ≤ j
  cn : Q.length + cu f M.length = M.length
  g : ∀ g, (∀ k, Wk M k i i → g ∣ k) → g ∣ p
  d : ∀ (j u : Nat), j < k → Q[j]? = some u → ∀ z, Mu M i z → 0 < ent M u z → f z ≠ -1 ∧ (p : Int) ∣ f u + 1 - f z
  e : ∀ u, Q[k]? = some u → ∀ z, z < v → Mu M i z → 0 < ent M u z → f z ≠ -1 ∧ (p : Int) ∣ f u + 1 - f z
  b : p ≤ 100
theorem BI.skip {i k v p u : Nat} {f : Nat → Int} {Q : List Nat} (l : BI M i f Q k v p) (hu : Q[k]? = some u) (h : ¬ (Mu M i v ∧ 0 < ent M u v)) : BI M i f Q k (v + 1) p :=
  ⟨l.f0, l.a, l.q, l.cn, l.g, l.d, fun u' hu' z hz m ez => by
    by_cases c : z = v
    · subst c
      rw [hu] at hu'
      cases hu'
      exact absurd ⟨m, ez⟩ h
    · exact l.e u' hu' z (by omega) m ez, l.b⟩
theorem BI.old (h8 : M.length ≤ 8) {i k v p u : Nat} {f : Nat → Int} {Q : List Nat} (l : BI M i f Q k v p) (hu : Q[k]? = some u) (m : Mu M i v) (e : 0 < ent M u v) (hv : v < M.length) (hf : f v ≠ -1) : BI M i f Q k (v + 1) (Nat.gcd (f u + 1 - f v).natAbs p) := by
  obtain ⟨hu1, hu2, hu3⟩ := l.q k u hu
  obtain ⟨mu, ⟨du, eu, wu⟩, _⟩ := l.a u hu1 hu2
  obtain ⟨_, ⟨dv, ev, wv⟩, hq⟩ := l.a v hv hf
  have dv2 : ∀ x, (p : Int) ∣ x → ((Nat.gcd (f u + 1 - f v).natAbs p : Nat) : Int) ∣ x := fun x hx => Int.dvd_trans (Int.natCast_dvd_natCast.2 (Nat.gcd_dvd_right _ _)) hx
  refine ⟨l.f0, l.a, l.q, l.cn, fun g hg => Nat.dvd_gcd ?_ (l.g g hg), fun j u' hj hu' z mz ez => ⟨(l.d j u' hj hu' z mz ez).1, dv2 _ (l.d j u' hj hu' z mz ez).2⟩, fun u' hu' z hz mz ez => ?_, ?_⟩
  · obtain ⟨lb, wl⟩ := m.2
    have h1 := hg _ ((wu.add (Wk.one e)).add wl)
    have h2 := hg _ (wv.add wl)
    have h1' : (g : Int) ∣ ((du + 1 + lb : Nat) : Int) := Int.natCast_dvd_natCast.2 h1
    have h2' : (g : Int) ∣ ((dv + lb : Nat) : Int) := Int.natCast_dvd_natCast.2 h2
    have := Int.dvd_sub h1' h2'
    rw [show ((du + 1 + lb : Nat) : Int) - ((dv + lb : Nat) : Int) = f u + 1 - f v by omega] at this
    exact Int.ofNat_dvd_left.1 this
  · by_cases c : z = v
    · subst c
      rw [hu] at hu'
      cases hu'
      exact ⟨hf, Int.ofNat_dvd_left.2 (Nat.gcd_dvd_left _ _)⟩
    · have := l.e u' hu' z (by omega) mz ez
      exact ⟨this.1, dv2 _ this.2⟩
  · have hb := l.b
    by_cases c : p = 0
    · subst c
      rw [Nat.gcd_zero_right]
      obtain ⟨j, hj⟩ := List.mem_iff_getElem?.1 hq
      have h1 := (l.q j v hj).2.2
      have h2 := (List.getElem?_eq_some_iff.1 hj).1
      have h3 := (List.getElem?_eq_some_iff.1 hu).1
      have := l.cn
      omega
    · have := Nat.gcd_le_right (m := (f u + 1 - f v).natAbs) (Nat.pos_of_ne_zero c)
      omega
theorem BI.new {i k v p u : Nat} {f : Nat → Int} {Q : List Nat} (l : BI M i f Q k v p) (hu : Q[k]? = some u) (m : Mu M i v) (e : 0 < ent M u v) (hv : v < M.length) (hf : f v = -1) : BI M i (fun z => if z = v then f u + 1 else f z) (Q ++ [v]) k (v + 1) p := by
  obtain ⟨hu1, hu2, hu3⟩ := l.q k u hu
  obtain ⟨mu, ⟨du, eu, wu⟩, _⟩ := l.a u hu1 hu2
  have huv : u ≠ v := fun e => by rw [e, hf] at hu2; exact hu2 rfl
  have hkQ := (List.getElem?_eq_some_iff.1 hu).1
  have old : ∀ z, f z ≠ -1 → (if z = v then f u + 1 else f z) = f z := fun z hz => if_neg (fun e => by rw [e] at hz; exact hz hf)
  have inQ : ∀ (j z : Nat), j < Q.length → (Q ++ [v])[j]? = some z → Q[j]? = some z := fun j z hj h => by rwa [List.getElem?_append_left hj] at h
  refine ⟨?_, fun z hz hne => ?_, fun j z hj => ?_, ?_, l.g, fun j u' hj hu' z mz ez => ?_, fun u' hu' z hz mz ez => ?_, l.b⟩
  · show (if i = v then f u + 1 else f i) = 0
    rw [old i (by rw [l.f0]; omega), l.f0]
  · by_cases c : z = v
    · subst c
      exact ⟨m, ⟨du + 1, by rw [if_pos rfl]; omega, wu.add (Wk.one e)⟩, by simp⟩
    · simp only [if_neg c] at hne ⊢
      obtain ⟨a1, a2, a3⟩ := l.a z hz hne
      exact ⟨a1, a2, by simp [a3]⟩
  · by_cases c : j < Q.length
    · obtain ⟨a1, a2, a3⟩ := l.q j z (inQ j z c hj)
      show z < M.length ∧ (if z = v then f u + 1 else f z) ≠ -1 ∧ (if z = v then f u + 1 else f z) ≤ j
      rw [old z a2]
      exact ⟨a1, a2, a3⟩
    · rw [List.getElem?_append_right (by omega)] at hj
      have hj0 : j - Q.length = 0 := by
        have := (List.getElem?_eq_some_iff.1 hj).1
        simpa using this
      rw [hj0] at hj
      simp only [List.getElem?_cons_zero, Option.some.injEq] at hj
      subst hj
      show v < M.length ∧ (if v = v then f u + 1 else f v) ≠ -1 ∧ (if v = v then f u + 1 else f v) ≤ j
      rw [if_pos rfl]
      exact ⟨hv, by omega, by omega⟩
  · have := cu_upd (w := f u + 1) hf (by omega) hv
    have := l.cn
    rw [List.length_append, List.length_singleton]
    omega
  · have hjQ : j < Q.length := by omega
    have h := l.d j u' hj (inQ j u' hjQ hu') z mz ez
    obtain ⟨_, hu2', _⟩ := l.q j u' (inQ j u' hjQ hu')
    show (if z = v then f u + 1 else f z) ≠ -1 ∧ (p : Int) ∣ (if u' = v then f u + 1 else f u') + 1 - (if z = v then f u + 1 else f z)
    rw [old z h.1, old u' hu2']
    exact h
  · have hu'' := inQ k u' hkQ hu'
    rw [hu] at hu''
    cases hu''
    show (if z = v then f u + 1 else f z) ≠ -1 ∧ (p : Int) ∣ (if u = v then f u + 1 else f u) + 1 - (if z = v then f u + 1 else f z)
    rw [old u hu2]
    by_cases c : z = v
    · rw [if_pos c]
      exact ⟨by omega, by rw [Int.sub_self]; exact Int.dvd_zero _⟩
    · rw [if_neg c]
      exact l.e u hu z (by omega) mz ez
theorem BI.done (hm : isMat M = true) {i p : Nat} {f : Nat → Int} {Q : List Nat} (hi : i < M.length) (l : BI M i f Q Q.length 0 p) : (∀ z, z < M.length → Mu M i z → ∃ d : Nat, f z = d ∧ Wk M d i z) ∧ (∀ z, z < M.length → ¬ Mu M i z → f z = -1) ∧ perN M i = p := by
  have all : ∀ {k z}, Wk M k i z → Mu M i z → f z ≠ -1 := fun {k} => by
    induction k with
    | zero =>
      intro z w _
      have : i = z := w
      subst this
      rw [l.f0]; omega
    | succ k ih =>
      intro z w m
      obtain ⟨u, w', e⟩ := Wk.snoc.1 w
      have mu := mu_mid m ⟨k, w'⟩ e
      have hu := (ent_lt hm e).1
      obtain ⟨_, _, hq⟩ := l.a u hu (ih w' mu)
      obtain ⟨j, hj⟩ := List.mem_iff_getElem?.1 hq
      exact (l.d j u (List.getElem?_eq_some_iff.1 hj).1 hj z m e).1
  have h1 : ∀ z, Mu M i z → ∃ d : Nat, f z = d ∧ Wk M d i z := fun z m => by
    obtain ⟨k, w⟩ := m.1
    exact (l.a z (w.lt' hm hi) (all w m)).2.1
  refine ⟨fun z _ m => h1 z m, fun z hz m => ?_, ?_⟩
  · apply Decidable.byContradiction
    intro c
    exact m (l.a z hz c).1
  · refine perN_eq (per_of l.f0 h1 (fun u v mu mv e => ?_) l.g)
    obtain ⟨k, w⟩ := mu.1
    obtain ⟨_, _, hq⟩ := l.a u (w.lt' hm hi) (all w mu)
    obtain ⟨j, hj⟩ := List.mem_iff_getElem?.1 hq
    exact (l.d j u (List.getElem?_eq_some_iff.1 hj).1 hj v mv e).2
end
def qs (Q : List Nat) : List AV := Q.map fun (z : Nat) => G (z : Int)
theorem qs_len (Q : List Nat) : (qs Q).length = Q.length := by simp [qs]
structure BS (h0 H : Heap) (M : List (List Int)) (qc qo : Nat) (f : Nat → Int) (xq : AV) (Q : List Nat) : Prop where
  kf : Kp (fun _ => False) (frameOf h0) H
  gm : H.get h0.size = .cells 0 65 (matC M)
  gc : H.get qc = .cells 1 M.length (gs (clsL M))
  c1 : h0.size < qc
  go : H.get qo = .cells 1 M.length (gs (lf f M.length))
  o1 : h0.size < qo
  o2 : qo ≠ qc
  lq : ∃ bq, xq = .slice bq 0 Q.length Q.length ∧ H.get bq = .cells 1 Q.length (qs Q) ∧ h0.size < bq ∧ bq ≠ qo ∧ bq ≠ qc
section
variable {M : List (List Int)}
theorem fr_size (h : Heap) : (frameOf h).size = h.size := by simp [frameOf, Heap.size]
theorem BS.set {h0 H : Heap} {qc qo : Nat} {f : Nat → Int} {xq : AV} {Q : List Nat} (b : BS h0 H M qc qo f xq Q) {v : Nat} (hv : v < M.length) (z : Int) : ∃ H', Eff.app (.put qo M.length v [G z]) H = some H' ∧ BS h0 H' M qc qo (fun x => if x = v then z else f x) xq Q := by
  have hN : H.N = h0.size := b.kf.N
  have o1 := b.o1
  have p := put_gen H qo M.length v 1 (gs (lf f M.length)) [G z] (by omega) b.go (by rw [gl_len]; show v + 1 ≤ M.length; omega)
  rw [show putAt (gs (lf f M.length)) v [G z] = gs (lf (fun x => if x = v then z else f x) M.length) from gl_set f M.length v z hv] at p
  have hlt := get_lt b.go (by simp)
  refine ⟨_, p, b.kf.updn _ _ (by omega) (by rw [fr_size]; omega), ?_, ?_, b.c1, upd_same _ _ _ (by omega) hlt, b.o1, b.o2, ?_⟩
  · rw [upd_ne _ _ _ _ (by omega) (by omega)]; exact b.gm
  · rw [upd_ne _ _ _ _ (by omega) b.o2]; exact b.gc
  · obtain ⟨bq, e1, e2, e3, e4, e5⟩ := b.lq
    exact ⟨bq, e1, by rw [upd_ne _ _ _ _ (by omega) (fun e => e4 e.symm)]; exact e2, e3, e4, e5⟩
theorem BS.push {h0 H : Heap} (k0 : Nat) {qc qo : Nat} {f : Nat → Int} {xq : AV} {Q : List Nat} (b : BS h0 H M qc qo f xq Q) (v : Nat) (hn : Q.length ≤ 1000) :
    ∃ x1 e H', appA (H.plus [.cells 1 1 [G v]]) k0 none 1 8 1 [G v] xq = some (x1, e) ∧ Eff.app e (H.plus [.cells 1 1 [G v]]) = some H' ∧ BS h0 H' M qc qo f x1 (Q ++ [v]) := by
  have hN : H.N = h0.size := b.kf.N
  have o1 := b.o1
  have c1 := b.c1
  obtain ⟨bq, rfl, e2, e3, e4, e5⟩ := b.lq
  have hlt := get_lt e2 (by simp)
  have g2 := plus_keep [.cells 1 1 [G v]] e2 (by simp)
  have hN' : (H.plus [.cells 1 1 [G (v : Int)]]).N ≤ bq := by rw [plus_N]; omega
  have x := ext_gen (H.plus [.cells 1 1 [G v]]) bq Q.length 1 (qs Q) [G v] hN' g2 (qs_len Q)
  refine ⟨.slice bq 0 (Q.length + 1) (Q.length + 1), .ext bq Q.length 1 [G v], _, ?_, x, (b.kf.trans (Kp.plus _ _)).updn _ _ hN' (by rw [fr_size]; omega), ?_, ?_, c1, ?_, o1, b.o2, bq, by simp, ?_, e3, e4, e5⟩
  · simp only [appA, Nat.mul_one, Nat.one_mul]
    rw [if_neg (by decide), if_pos ⟨trivial, by simp, by omega⟩]
  · rw [upd_ne _ _ _ _ hN' (by omega)]; exact plus_keep _ b.gm (by simp)
  · rw [upd_ne _ _ _ _ hN' e5]; exact plus_keep _ b.gc (by simp)
  · rw [upd_ne _ _ _ _ hN' e4]; exact plus_keep _ b.go (by simp)
  · rw [upd_same _ _ _ hN' (by rw [plus_size]; omega)]
    simp [qs]
end
section
variable {M : List (List Int)}
def DSp (M : List (List Int)) (i : Nat) (f : Nat → Int) : Prop := (∀ z, z < M.length → Mu M i z → ∃ d : Nat, f z = d ∧ Wk M d i z) ∧ (∀ z, z < M.length → ¬ Mu M i z → f z = -1)
end
structure AD where
  M : List (List Int)
  i : Nat
def OkD (a : AD) : Prop := isMat a.M = true ∧ a.i < a.M.length
def PreD (a : AD) (args : List AV) (_ : Heap) : Prop := OkD a ∧ args = [.agg (matC a.M), G a.i]
def Post63 (a : AD) (h : Heap) (v : AV) (own : List AObj) : Prop := ∃ w f, v = .tup [w, G (perN a.M a.i)] ∧ DSp a.M a.i f ∧ perN a.M a.i ≤ 100 ∧ NG h (h.plus own) w (lf f a.M.length)
noncomputable def T26 : CallF := addK tbl T25 63 PreD Post63
theorem t26 : Sound Go.Proofs.Try.prog T26 := Sound.addK follows ok t25 (by decide) _ _
section
variable {M : List (List Int)}
end
def Post32 (a : AM) (h : Heap) (v : AV) (own : List AObj) : Prop := (isMat a.M = false → v = .tup [.nils, G 2] ∧ own = []) ∧ (isMat a.M = true → ∃ w, v = .tup [w, G 0] ∧ NG h (h.plus own) w (pdL a.M))
noncomputable def T27 : CallF := addK tbl T26 32 PreM Post32
theorem t27 : Sound Go.Proofs.Try.prog T27 := Sound.addK follows ok t26 (by decide) _ _
end Go.Proofs.Ytjeemgaoonapgaa.Ev
set_option linter.unusedVariables false
set_option linter.unusedSimpArgs false
namespace Go.Proofs.Ytjeemgaoonapgaa.Ev
open Go Go.AEv
def st (L : List Nat) : List (AV × AV) := L.map fun (c : Nat) => (G c, AV.bool true)
def ins (c : Nat) (L : List Nat) : List Nat := if c ∈ L then L else L ++ [c]
theorem mem_ins {z c : Nat} {L : List Nat} : z ∈ ins c L ↔ z = c ∨ z ∈ L := by
  unfold ins
  split
  · rename_i h
    exact ⟨.inr, fun q => q.elim (fun e => e ▸ h) id⟩
  · simp [or_comm]
end Go.Proofs.Ytjeemgaoonapgaa.Ev
set_option linter.unusedVariables false
set_option linter.unusedSimpArgs false
namespace Go.Proofs.Ytjeemgaoonapgaa.Ev
open Go Go.AEv
attribute [local simp] evFunc initS evOps_c evTrim_c evSkip_c evExit_c evRet_c evSeq_c evCond_c evBlock_c evDraw_c runOps_n runOps_c exec_n exec_g pure1_c act AOpd.ev T.get T.set T.put evBin evUn forceT_eq forceV_eq forceL_eq evRess evRes one keep runFP_n runFP_c app_none AV.flats AV.flat came_some List.getElem?_cons_zero List.getElem?_cons_succ beqT wrapI idxI tdivI tmodI decT decF ibT ibF inT inF evScope_c if_pos if_neg Cm_some thenW_n thenW_e thenW_r blkW_n blkW_e blkW_r goI kn putAt AV.cells fillA loadA takeA mk Eff.isAll Eff.isNone Eff.commutes Eff.spares okPair apart eqAgg fits LK.fits allEq aveq eqk mmA
section
variable {M : List (List Int)}
def LVS (M : List (List Int)) (x y : Nat) (L : List Nat) : Prop := ∀ c, c ∈ L ↔ ∃ u v, (u < x ∨ (u = x ∧ v < y)) ∧ 0 < ent M u v ∧ clN M u ≠ clN M v ∧ clN M u = c
theorem LVS.skip {x y : Nat} {L : List Nat} (l : LVS M x y L) (h : ¬ (0 < ent M x y ∧ clN M x ≠ clN M y)) : LVS M x (y + 1) L := fun c =>
  ⟨fun q => by
    obtain ⟨u, v, a, b⟩ := (l c).1 q
    exact ⟨u, v, by omega, b⟩, fun ⟨u, v, a, b1, b2, b3⟩ => by
    by_cases cc : u = x ∧ v = y
    · rw [cc.1, cc.2] at b1 b2; exact absurd ⟨b1, b2⟩ h
    · exact (l c).2 ⟨u, v, by omega, b1, b2, b3⟩⟩
theorem LVS.put {x y : Nat} {L : List Nat} (l : LVS M x y L) (h1 : 0 < ent M x y) (h2 : clN M x ≠ clN M y) : LVS M x (y + 1) (ins (clN M x) L) := fun c => by
  rw [mem_ins]
  constructor
  · rintro (rfl | q)
    · exact ⟨x, y, by omega, h1, h2, rfl⟩
    · obtain ⟨u, v, a, b⟩ := (l c).1 q
      exact ⟨u, v, by omega, b⟩
  · rintro ⟨u, v, a, b1, b2, b3⟩
    by_cases cc : u = x ∧ v = y
    · rw [cc.1] at b3; exact .inl b3.symm
    · exact .inr ((l c).2 ⟨u, v, by omega, b1, b2, b3⟩)
def finP (M : List (List Int)) (i : Nat) : Prop := clN M i = i ∧ ∀ u v, 0 < ent M u v → clN M u = i → clN M v = i
theorem LVS.fin (hm : isMat M = true) {L : List Nat} (l : LVS M M.length 0 L) (i : Nat) : finP M i ↔ clN M i = i ∧ i ∉ L := by
  refine ⟨fun ⟨a, b⟩ => ⟨a, fun q => ?_⟩, fun ⟨a, b⟩ => ⟨a, fun u v e c => ?_⟩⟩
  · obtain ⟨u, v, _, b1, b2, b3⟩ := (l i).1 q
    exact b2 (b3.trans (b u v b1 b3).symm)
  · exact Classical.byContradiction fun n => b ((l i).2 ⟨u, v, .inl (ent_lt hm e).1, e, fun q => n (q ▸ c), c⟩)
open Classical in
noncomputable def fnL (M : List (List Int)) : Nat → List Int
  | 0 => []
  | k + 1 => if finP M k then fnL M k ++ [(k : Int)] else fnL M k
end
def Post49 (a : AM) (h : Heap) (v : AV) (own : List AObj) : Prop := (isMat a.M = false → v = .tup [.nils, G 2] ∧ own = []) ∧ (isMat a.M = true → ∃ w, v = .tup [w, G 0] ∧ NG h (h.plus own) w (fnL a.M a.M.length))
noncomputable def T28 : CallF := addK tbl T27 49 PreM Post49
theorem t28 : Sound Go.Proofs.Try.prog T28 := Sound.addK follows ok t27 (by decide) _ _
section
variable {M : List (List Int)}
def FI (M : List (List Int)) (i x y : Nat) (b : Bool) : Prop := b = true ↔ clN M i = i ∧ ∀ u v, (u < x ∨ (u = x ∧ v < y)) → 0 < ent M u v → clN M u = i → clN M v = i
theorem FI.no {i x y x' y' : Nat} (l : FI M i x y false) (h : x < x' ∨ (x = x' ∧ y ≤ y')) : FI M i x' y' false :=
  ⟨fun e => (by cases e), fun ⟨a, b⟩ => l.2 ⟨a, fun u v c => b u v (by omega)⟩⟩
theorem FI.keep {i x y : Nat} (l : FI M i x y true) (h : 0 < ent M x y → clN M x = i → clN M y = i) : FI M i x (y + 1) true :=
  ⟨fun e => ⟨(l.1 e).1, fun u v c => by
    by_cases cc : u = x ∧ v = y
    · rw [cc.1, cc.2]; exact h
    · exact (l.1 e).2 u v (by omega)⟩, fun _ => rfl⟩
theorem FI.done (hm : isMat M = true) {i : Nat} {b : Bool} (l : FI M i M.length 0 b) : b = true ↔ finP M i :=
  l.trans ⟨fun ⟨a, c⟩ => ⟨a, fun u v e => c u v (.inl (ent_lt hm e).1) e⟩, fun ⟨a, c⟩ => ⟨a, fun u v _ => c u v⟩⟩
end
def Post52 (a : AM) (h : Heap) (v : AV) (own : List AObj) : Prop := NG h (h.plus own) v (fnL a.M a.M.length)
noncomputable def T29 : CallF := addK tbl T28 52 PreO Post52
theorem t29 : Sound Go.Proofs.Try.prog T29 := Sound.addK follows ok t28 (by decide) _ _
end Go.Proofs.Ytjeemgaoonapgaa.Ev
set_option linter.unusedVariables false
set_option linter.unusedSimpArgs false
namespace Go.Proofs.Ytjeemgaoonapgaa.Ev
open Go Go.AEv
theorem nodup_le {n : Nat} {P : List Nat} (nd : P.Nodup) (h : ∀ c ∈ P, c < n) : P.length ≤ n := by
  refine Nat.le_of_not_lt fun hl => ?_
  obtain ⟨i, j, h1, h2, h3⟩ := pigeon n (fun i => P.getD i 0) (fun i hi => by
    rw [List.getD_eq_getElem?_getD, List.getElem?_eq_getElem (by omega)]
    exact h _ (List.getElem_mem _))
  have hp := List.pairwise_iff_getElem.1 nd i j (by omega) (by omega) h1
  rw [List.getD_eq_getElem?_getD, List.getD_eq_getElem?_getD, List.getElem?_eq_getElem (by omega), List.getElem?_eq_getElem (by omega)] at h3
  exact hp h3
theorem nodup_snoc {P : List Nat} {c : Nat} (nd : P.Nodup) (h : c ∉ P) : (P ++ [c]).Nodup := by
  rw [List.nodup_append]
  refine ⟨nd, by simp, fun a ha b hb e => ?_⟩
  rw [List.mem_singleton] at hb
  subst hb; subst e
  exact h ha
section
variable {M : List (List Int)}
def rdy (M : List (List Int)) (P : List Nat) (c : Nat) : Prop := ∀ u v, 0 < ent M u v → clN M v = c → clN M u ≠ c → clN M u ∈ P
def cand (M : List (List Int)) (P : List Nat) (c : Nat) : Prop := clN M c = c ∧ c ∉ P ∧ rdy M P c
open Classical in
noncomputable def nxB (M : List (List Int)) (P : List Nat) : List Nat := if h : ∃ c, c < M.length ∧ cand M P c ∧ ∀ d, d < c → ¬ cand M P d then P ++ [Classical.choose h] else P
noncomputable def sqB (M : List (List Int)) : Nat → List Nat
  | 0 => []
  | k + 1 => nxB M (sqB M k)
theorem nxB_t {P : List Nat} {c : Nat} (h1 : c < M.length) (h2 : cand M P c) (h3 : ∀ d, d < c → ¬ cand M P d) : nxB M P = P ++ [c] := by
  have h : ∃ c, c < M.length ∧ cand M P c ∧ ∀ d, d < c → ¬ cand M P d := ⟨c, h1, h2, h3⟩
  unfold nxB
  rw [dif_pos h]
  obtain ⟨_, e2, e3⟩ := Classical.choose_spec h
  have : Classical.choose h = c := by
    rcases Nat.lt_trichotomy (Classical.choose h) c with l | l | l
    · exact absurd e2 (h3 _ l)
    · exact l
    · exact absurd h2 (e3 _ l)
  rw [this]
theorem nxB_f {P : List Nat} (h : ∀ c, c < M.length → ¬ cand M P c) : nxB M P = P := by
  unfold nxB
  exact dif_neg fun ⟨c, h1, h2, _⟩ => h c h1 h2
structure PB (M : List (List Int)) (P : List Nat) : Prop where
  e : P = sqB M P.length
  d : P.Nodup
  l : ∀ c ∈ P, c < M.length ∧ clN M c = c
theorem PB.nil : PB M [] := ⟨rfl, List.Pairwise.nil, fun c h => (by cases h)⟩
theorem PB.push {P : List Nat} (p : PB M P) {c : Nat} (h1 : c < M.length) (h2 : cand M P c) (h3 : ∀ d, d < c → ¬ cand M P d) : PB M (P ++ [c]) :=
  ⟨by
    rw [List.length_append]
    show P ++ [c] = nxB M (sqB M P.length)
    rw [← p.e, nxB_t h1 h2 h3], nodup_snoc p.d h2.2.1, fun d hd => by
    rcases List.mem_append.1 hd with q | q
    · exact p.l d q
    · rw [List.mem_singleton] at q; subst q; exact ⟨h1, h2.1⟩⟩
theorem PB.len {P : List Nat} (p : PB M P) : P.length ≤ M.length := nodup_le p.d fun c hc => (p.l c hc).1
noncomputable def seqB (M : List (List Int)) : List Nat := sqB M M.length
theorem PB.done {P : List Nat} (p : PB M P) (h : ∀ c, c < M.length → ¬ cand M P c) : P = seqB M := by
  have : ∀ d, sqB M (P.length + d) = P := fun d => by
    induction d with
    | zero => exact p.e.symm
    | succ d ih =>
      show nxB M (sqB M (P.length + d)) = P
      rw [ih, nxB_f h]
  have h2 := this (M.length - P.length)
  rw [show P.length + (M.length - P.length) = M.length by have := p.len; omega] at h2
  exact h2.symm
def cmL (M : List (List Int)) (c : Nat) : Nat → List Int
  | 0 => []
  | k + 1 => if clN M k = c then cmL M c k ++ [(k : Int)] else cmL M c k
theorem cmL_t {c k : Nat} (h : clN M k = c) : cmL M c (k + 1) = cmL M c k ++ [(k : Int)] := if_pos h
theorem cmL_f {c k : Nat} (h : ¬ clN M k = c) : cmL M c (k + 1) = cmL M c k := if_neg h
theorem cmL_pos {c k : Nat} (h : clN M c = c) : c < k → cmL M c k ≠ [] := by
  induction k with
  | zero => intro q; omega
  | succ k ih =>
    intro q
    by_cases e : clN M k = c
    · rw [cmL_t e]; simp
    · rw [cmL_f e]
      exact ih (by
        rcases Nat.lt_or_ge c k with a | a
        · exact a
        · have : c = k := by omega
          subst this; exact absurd h e)
def bkC (M : List (List Int)) (P : List Nat) : List (List AV) := P.map fun c => gs (cmL M c M.length)
theorem bkC_s (P : List Nat) (c : Nat) : bkC M (P ++ [c]) = bkC M P ++ [gs (cmL M c M.length)] := by simp [bkC]
theorem bkC_len (P : List Nat) : (bkC M P).length = P.length := by simp [bkC]
structure PN (M : List (List Int)) (P L : List Nat) : Prop where
  d : L.Nodup
  m : ∀ u, u ∈ L ↔ u < M.length ∧ clN M u ∈ P
theorem PN.rdy (hm : isMat M = true) {P L : List Nat} (p : PN M P L) {c : Nat} : rdy M P c ↔ ∀ u v, 0 < ent M u v → clN M v = c → clN M u ≠ c → u ∈ L :=
  ⟨fun h u v e a b => (p.m u).2 ⟨(ent_lt hm e).1, h u v e a b⟩, fun h u v e a b => ((p.m u).1 (h u v e a b)).2⟩
theorem PN.lt {P L : List Nat} (p : PN M P L) : L.length ≤ M.length := nodup_le p.d fun c hc => ((p.m c).1 hc).1
theorem PN.full {P L : List Nat} (p : PN M P L) (h : ¬ L.length < M.length) {c : Nat} (hc : c < M.length) : ¬ cand M P c := fun ⟨a, b, _⟩ => by
  by_cases q : c ∈ L
  · have := ((p.m c).1 q).2; rw [a] at this; exact b this
  · have h2 := nodup_le (nodup_snoc p.d q) (fun x hx => by
      rcases List.mem_append.1 hx with y | y
      · exact ((p.m x).1 y).1
      · rw [List.mem_singleton] at y; rw [y]; exact hc)
    simp at h2
    omega
structure PK (M : List (List Int)) (P : List Nat) (c k : Nat) (L : List Nat) : Prop where
  d : L.Nodup
  m : ∀ u, u ∈ L ↔ u < M.length ∧ (clN M u ∈ P ∨ (clN M u = c ∧ u < k))
theorem PK.skip {P L : List Nat} {c k : Nat} (p : PK M P c k L) (h : ¬ clN M k = c) : PK M P c (k + 1) L := ⟨p.d, fun u => by
  rw [p.m u]
  have : clN M u = c ∧ u < k + 1 ↔ clN M u = c ∧ u < k := ⟨fun ⟨a, b⟩ => ⟨a, by
    rcases Nat.lt_or_ge u k with x | x
    · exact x
    · have : u = k := by omega
      subst this; exact absurd a h⟩, fun ⟨a, b⟩ => ⟨a, by omega⟩⟩
  rw [this]⟩
theorem PK.take {P L : List Nat} {c k : Nat} (p : PK M P c k L) (hk : k < M.length) (h : clN M k = c) (hc : c ∉ P) : PK M P c (k + 1) (L ++ [k]) ∧ ins k L = L ++ [k] := by
  have hn : k ∉ L := fun q => by
    rcases ((p.m k).1 q).2 with a | ⟨_, a⟩
    · rw [h] at a; exact hc a
    · omega
  refine ⟨⟨nodup_snoc p.d hn, fun u => ?_⟩, if_neg hn⟩
  rw [List.mem_append, List.mem_singleton, p.m u]
  constructor
  · rintro (⟨a, b | ⟨b1, b2⟩⟩ | rfl)
    · exact ⟨a, .inl b⟩
    · exact ⟨a, .inr ⟨b1, by omega⟩⟩
    · exact ⟨hk, .inr ⟨h, by omega⟩⟩
  · rintro ⟨a, b | ⟨b1, b2⟩⟩
    · exact .inl ⟨a, .inl b⟩
    · by_cases e : u = k
      · exact .inr e
      · exact .inl ⟨a, .inr ⟨b1, by omega⟩⟩
theorem PK.done {P L : List Nat} {c : Nat} (p : PK M P c M.length L) : PN M (P ++ [c]) L := ⟨p.d, fun u => by
  rw [p.m u, List.mem_append, List.mem_singleton]
  exact ⟨fun ⟨a, b⟩ => ⟨a, b.imp id fun x => x.1⟩, fun ⟨a, b⟩ => ⟨a, b.imp id fun x => ⟨x, a⟩⟩⟩⟩
end
end Go.Proofs.Ytjeemgaoonapgaa.Ev
set_option linter.unusedVariables false
set_option linter.unusedSimpArgs false
namespace Go.Proofs.Ytjeemgaoonapgaa.Ev
open Go Go.AEv
attribute [local simp] evFunc initS evOps_c evTrim_c evSkip_c evExit_c evRet_c evSeq_c evCond_c evBlock_c evDraw_c runOps_n runOps_c exec_n exec_g pure1_c act AOpd.ev T.get T.set T.put evBin evUn forceT_eq forceV_eq forceL_eq evRess evRes one keep runFP_n runFP_c app_none AV.flats AV.flat came_some List.getElem?_cons_zero List.getElem?_cons_succ beqT wrapI idxI tdivI tmodI decT decF ibT ibF inT inF evScope_c if_pos if_neg Cm_some thenW_n thenW_e thenW_r blkW_n blkW_e blkW_r goI kn putAt AV.cells fillA loadA takeA mk Eff.isAll Eff.isNone Eff.commutes Eff.spares okPair apart eqAgg fits LK.fits allEq aveq eqk mmA
section
variable {M : List (List Int)}
def nb (M : List (List Int)) (L : List Nat) (c x y : Nat) : Prop := 0 < ent M x y → clN M y = c → clN M x ≠ c → x ∈ L
def rdQ (M : List (List Int)) (L : List Nat) (c : Nat) : Prop := ∀ u v, 0 < ent M u v → clN M v = c → clN M u ≠ c → u ∈ L
end
structure A75 where
  M : List (List Int)
  qc : Nat
  qp : Nat
  c : Nat
  L : List Nat
def Ok75 (a : A75) (h : Heap) : Prop := isMat a.M = true ∧ h.get a.qc = .cells 1 a.M.length (gs (clsL a.M)) ∧ h.get a.qp = .map (st a.L)
def Pre75 (a : A75) (args : List AV) (h : Heap) : Prop := Ok75 a h ∧ args = [.agg (matC a.M), .slice a.qc 0 a.M.length a.M.length, .map a.qp, G a.c]
open Classical in
def Post75 (a : A75) (h : Heap) (v : AV) (own : List AObj) : Prop := v = .bool (decide (rdQ a.M a.L a.c)) ∧ own = []
noncomputable def T30 : CallF := addK tbl T29 75 Pre75 Post75
theorem t30 : Sound Go.Proofs.Try.prog T30 := Sound.addK follows ok t29 (by decide) _ _
theorem Kp.both {A B : Heap} {b : Nat} {X : AObj} (k : Kp (fun _ => False) A B) (hN : A.N ≤ b) (hb : b < A.size) : Kp (fun _ => False) (A.upd b X) (B.upd b X) := by
  have hs := k.size
  have hNB : B.N ≤ b := by rw [k.N]; exact hN
  refine ⟨k.lo, k.N, by rw [upd_size, upd_size]; exact hs, fun i hi hm => ?_⟩
  rw [upd_size] at hi
  by_cases e : i = b
  · subst e
    rw [upd_same _ _ _ hN hb, upd_same _ _ _ hNB (by omega)]
  · rw [upd_ne _ _ _ _ hN (fun q => e q.symm), upd_ne _ _ _ _ hNB (fun q => e q.symm)]
    exact k.get i hi hm
theorem NG.both {A B : Heap} {b : Nat} {X : AObj} {x : AV} {L : List Int} (t : NG A B x L) (hN : A.N ≤ b) (hb : b < A.size) : NG (A.upd b X) (B.upd b X) x L :=
  ⟨Kp.both t.k hN hb, fun q hq => by rw [upd_size]; exact t.x0 q hq, t.l.kp (Kp.upd (M := fun i => i = b) B b X (by rw [t.k.N]; exact hN) rfl) (fun q hq e => by have := t.x0 q hq; omega)⟩
section
variable {M : List (List Int)}
structure S48 (Hb h : Heap) (M : List (List Int)) (P : List Nat) (c k : Nat) (x8 x10 : AV) : Prop where
  e : ∃ Hr L, TB Hb Hr x8 (bkC M P) ∧ Hr.get Hb.size = .map (st L) ∧ PK M P c k L ∧ NG Hr h x10 (cmL M c k)
structure T48 (Hb h : Heap) (M : List (List Int)) (P L : List Nat) (x8 : AV) : Prop where
  tb : TB Hb h x8 (bkC M P)
  gp : h.get Hb.size = .map (st L)
  pn : PN M P L
theorem S48.done {Hb h : Heap} {P : List Nat} {c : Nat} {x8 x10 : AV} (hc : clN M c = c) (hcn : c < M.length) (hl : P.length ≤ 8) (t : S48 Hb h M P c M.length x8 x10) :
    ∃ b n, x10 = .slice b 0 n n ∧ ∃ L x1 e h2, appA (h.plus [.cells 1 1 [.slice b 0 n n]]) h.size none 1 24 1 [.slice b 0 n n] x8 = some (x1, e) ∧ Eff.app e (h.plus [.cells 1 1 [.slice b 0 n n]]) = some h2 ∧ T48 Hb h2 M (P ++ [c]) L x1 ∧ AV.cells x1 = some [x1] := by
  obtain ⟨Hr, L, tb, gp, pk, ng⟩ := t
  obtain ⟨b, rfl, gb⟩ := ng.l.sl (by
    intro e
    have : cmL M c M.length = [] := by simpa using e
    exact cmL_pos hc hcn this)
  have hb := ng.x0 b rfl
  have tb2 := tb.kp ng.k
  have hx : blk x8 ≠ some b := fun e => by
    obtain ⟨rs, lv, _⟩ := tb.r
    have := lv.lt e
    omega
  obtain ⟨x1, e, h2, q1, q2, q3, q4⟩ := tb2.app h.size gb ⟨hx, by have := tb.k.size; omega⟩ (by rw [bkC_len]; omega)
  rw [← bkC_s] at q3
  have gp1 := ng.k.at gp (by simp) id
  have gp2 : h2.get Hb.size = .map (st L) := by
    obtain ⟨rs, lv, hrl, _⟩ := tb2.r
    rw [bkC_len] at hrl
    obtain ⟨x1', e', h2', a1, a2, _, k3, _⟩ := app_v (h.plus [.cells 1 1 [.slice b 0 (gs (cmL M c M.length)).length (gs (cmL M c M.length)).length]]) h.size 24 (.slice b 0 (gs (cmL M c M.length)).length (gs (cmL M c M.length)).length) (lv.kp (Kp.plus (M := fun _ => False) h _) (fun _ _ => id)) (by omega)
    rw [q1] at a1
    cases a1
    rw [q2] at a2
    cases a2
    refine k3.at (plus_keep _ gp1 (by simp)) (by simp) (fun q => ?_)
    rcases lv with ⟨rfl, _⟩ | ⟨b', rfl, g', _⟩
    · cases q
    · cases q; rw [gp1] at g'; cases g'
  exact ⟨b, _, rfl, L, x1, e, h2, q1, q2, ⟨q3, gp2, pk.done⟩, q4⟩
theorem PN.cand (hm : isMat M = true) {P L : List Nat} (p : PN M P L) {c : Nat} (hc : c < M.length) : cand M P c ↔ clN M c = c ∧ c ∉ L ∧ rdQ M L c := by
  have : clN M c = c → (c ∈ L ↔ c ∈ P) := fun e => by rw [p.m c, e]; exact ⟨fun x => x.2, fun x => ⟨hc, x⟩⟩
  constructor
  · rintro ⟨a, b, r⟩
    exact ⟨a, fun x => b ((this a).1 x), (PN.rdy hm p).1 r⟩
  · rintro ⟨a, b, r⟩
    exact ⟨a, fun x => b ((this a).2 x), (PN.rdy hm p).2 r⟩
theorem TB.fr1 {h h' : Heap} {x y : AV} {L : List (List AV)} (t : TB (frameOf h) h' x L) : TB h (h.plus (if (one [x, y]).flat then [] else h'.own)) x L := by
  split
  · rename_i hf
    obtain ⟨rs, lv, hl, hr⟩ := t.r
    rcases lv with ⟨rfl, rfl⟩ | ⟨b, rfl, g, n⟩
    · have : L = [] := List.eq_nil_of_length_eq_zero hl.symm
      subst this
      exact (TB.nil h).kp (Kp.plus _ _)
    · exact absurd hf (by simp [one, AV.flat, AV.flats])
  · exact t.fr
end
def Post48 (a : AM) (h : Heap) (v : AV) (own : List AObj) : Prop := (isMat a.M = false → v = .tup [.nils, G 2] ∧ own = []) ∧ (isMat a.M = true → ∃ w, v = .tup [w, G 0] ∧ TB h (h.plus own) w (bkC a.M (seqB a.M)))
noncomputable def T31 : CallF := addK tbl T30 48 PreM Post48
theorem t31 : Sound Go.Proofs.Try.prog T31 := Sound.addK follows ok t30 (by decide) _ _
theorem TB.both {A B : Heap} {b : Nat} {X : AObj} {x : AV} {R : List (List AV)} (t : TB A B x R) (hN : A.N ≤ b) (hb : b < A.size) : TB (A.upd b X) (B.upd b X) x R := by
  have hNB : B.N ≤ b := by rw [t.k.N]; exact hN
  obtain ⟨rs, lv, hl, hr⟩ := t.r
  refine ⟨Kp.both t.k hN hb, fun q hq => by rw [upd_size]; exact t.x0 q hq, rs, lv.kp (Kp.upd (M := fun i => i = b) B b X hNB rfl) (fun q hq e => by have := t.x0 q hq; omega), hl, fun i r hi => ?_⟩
  obtain ⟨cs, b', h1, h2, h3, h4, h5⟩ := hr i r hi
  refine ⟨cs, b', h1, h2, ?_, h4, by rw [upd_size]; exact h5⟩
  rw [upd_ne _ _ _ _ hNB (by omega)]
  exact h3
section
variable {M : List (List Int)}
def FB (M : List (List Int)) (P : List Nat) (i x y : Nat) (b : Bool) : Prop := b = true ↔ clN M i = i ∧ i ∉ P ∧ ∀ u v, (u < x ∨ (u = x ∧ v < y)) → 0 < ent M u v → clN M v = i → clN M u ≠ i → clN M u ∈ P
theorem FB.no {P : List Nat} {i x y x' y' : Nat} (l : FB M P i x y false) (h : x < x' ∨ (x = x' ∧ y ≤ y')) : FB M P i x' y' false :=
  ⟨fun e => (by cases e), fun ⟨a, a2, b⟩ => l.2 ⟨a, a2, fun u v c => b u v (by omega)⟩⟩
theorem FB.keep {P : List Nat} {i x y : Nat} (l : FB M P i x y true) (h : 0 < ent M x y → clN M y = i → clN M x ≠ i → clN M x ∈ P) : FB M P i x (y + 1) true :=
  ⟨fun e => ⟨(l.1 e).1, (l.1 e).2.1, fun u v c => by
    by_cases cc : u = x ∧ v = y
    · rw [cc.1, cc.2]; exact h
    · exact (l.1 e).2.2 u v (by omega)⟩, fun _ => rfl⟩
theorem FB.done (hm : isMat M = true) {P : List Nat} {i : Nat} {b : Bool} (l : FB M P i M.length 0 b) : b = true ↔ cand M P i :=
  l.trans ⟨fun ⟨a, a2, c⟩ => ⟨a, a2, fun u v e => c u v (.inl (ent_lt hm e).1) e⟩, fun ⟨a, a2, c⟩ => ⟨a, a2, fun u v _ => c u v⟩⟩
def plC (P : List Nat) (n : Nat) : List AV := bls (fun z => decide (z ∈ P)) n
structure S53 (Hb h : Heap) (M : List (List Int)) (P : List Nat) (x6 : AV) : Prop where
  e : ∃ A, Kp (fun _ => False) Hb A ∧ Hb.size < A.size ∧ A.get Hb.size = .cells 1 M.length (plC P M.length) ∧ TB A h x6 (bkC M P)
theorem plC_set (P : List Nat) {n c : Nat} (hc : c < n) : (plC P n).set c (.bool true) = plC (P ++ [c]) n := by
  unfold plC
  rw [bls_set _ _ _ _ hc]
  apply bls_ext
  intro z hz
  by_cases e : z = c
  · subst e; simp
  · simp [e]
theorem S53.gp {Hb h : Heap} {P : List Nat} {x6 : AV} (t : S53 Hb h M P x6) : h.get Hb.size = .cells 1 M.length (plC P M.length) := by
  obtain ⟨A, k, sz, g, tb⟩ := t
  exact tb.k.at g (by simp) id
theorem S53.kp {Hb h : Heap} {P : List Nat} {x6 : AV} (t : S53 Hb h M P x6) : Kp (fun _ => False) Hb h := by
  obtain ⟨A, k, sz, g, tb⟩ := t
  exact k.trans tb.k
theorem S53.add {Hb H h : Heap} {P : List Nat} {x6 x11 : AV} {c : Nat} (t : S53 Hb H M P x6) (ng : NG H h x11 (cmL M c M.length)) (hc : clN M c = c) (hcn : c < M.length) (hP : P.length ≤ 8) :
    ∃ b n, x11 = .slice b 0 n n ∧ ∃ x1 e h2 h3, appA (h.plus [.cells 1 1 [.slice b 0 n n]]) h.size none 1 24 1 [.slice b 0 n n] x6 = some (x1, e) ∧ Eff.app e (h.plus [.cells 1 1 [.slice b 0 n n]]) = some h2 ∧ Eff.app (.put Hb.size M.length c [.bool true]) h2 = some h3 ∧ S53 Hb h3 M (P ++ [c]) x1 ∧ AV.cells x1 = some [x1] := by
  obtain ⟨A, k, sz, g, tb⟩ := t
  obtain ⟨b, rfl, gb⟩ := ng.l.sl (by
    intro e
    have : cmL M c M.length = [] := by simpa using e
    exact cmL_pos hc hcn this)
  have hb := ng.x0 b rfl
  have tb2 := tb.kp ng.k
  have hx : blk x6 ≠ some b := fun e => by
    obtain ⟨rs, lv, _⟩ := tb.r
    have := lv.lt e
    omega
  obtain ⟨x1, e, h2, q1, q2, q3, q4⟩ := tb2.app h.size gb ⟨hx, by have := tb.k.size; omega⟩ (by rw [bkC_len]; omega)
  rw [← bkC_s] at q3
  have g2 := q3.k.at g (by simp) id
  have hN : A.N ≤ Hb.size := by rw [k.N]; unfold Heap.size; omega
  have hN2 : h2.N ≤ Hb.size := by rw [q3.k.N]; exact hN
  have p := put_gen h2 Hb.size M.length c 1 (plC P M.length) [.bool true] hN2 g2 (by rw [show (plC P M.length).length = M.length from bls_len _ _]; show c + 1 ≤ M.length; omega)
  rw [show putAt (plC P M.length) c [.bool true] = plC (P ++ [c]) M.length from plC_set P hcn] at p
  refine ⟨b, _, rfl, x1, e, h2, _, q1, q2, p, ⟨A.upd Hb.size (.cells 1 M.length (plC (P ++ [c]) M.length)), k.updn _ _ hN (Nat.le_refl _), by rw [upd_size]; exact sz, upd_same _ _ _ hN sz, q3.both hN sz⟩, q4⟩
end
section
variable {M : List (List Int)}
open Classical in
end
end Go.Proofs.Ytjeemgaoonapgaa.Ev
set_option linter.unusedVariables false
set_option linter.unusedSimpArgs false
namespace Go.Proofs.Ytjeemgaoonapgaa.Ev
open Go Go.AEv
open Classical in
noncomputable def ct (p : Nat → Prop) : Nat → Nat
  | 0 => 0
  | k + 1 => ct p k + (if p k then 1 else 0)
theorem leastN {p : Nat → Prop} (n : Nat) : p n → ∃ m, m ≤ n ∧ p m ∧ ∀ k, k < m → ¬ p k := by
  induction n using Nat.strongRecOn with
  | _ n ih =>
    intro h
    by_cases c : ∃ k, k < n ∧ p k
    · obtain ⟨k, hk, pk⟩ := c
      obtain ⟨m, a, b⟩ := ih k hk pk
      exact ⟨m, by omega, b⟩
    · exact ⟨n, Nat.le_refl _, h, fun k hk pk => c ⟨k, hk, pk⟩⟩
theorem nd_inj {P : List Nat} (nd : P.Nodup) {i j c : Nat} (h1 : P[i]? = some c) (h2 : P[j]? = some c) : i = j := by
  obtain ⟨l1, e1⟩ := List.getElem?_eq_some_iff.1 h1
  obtain ⟨l2, e2⟩ := List.getElem?_eq_some_iff.1 h2
  rcases Nat.lt_trichotomy i j with l | l | l
  · exact absurd (e1.trans e2.symm) (List.pairwise_iff_getElem.1 nd i j l1 l2 l)
  · exact l
  · exact absurd (e2.trans e1.symm) (List.pairwise_iff_getElem.1 nd j i l2 l1 l)
section
variable {M : List (List Int)}
structure PO (M : List (List Int)) (P : List Nat) : Prop where
  b : PB M P
  o : ∀ k c, P[k]? = some c → rdy M (P.take k) c
theorem PO.push {P : List Nat} (p : PO M P) {c : Nat} (h1 : c < M.length) (h2 : cand M P c) (h3 : ∀ d, d < c → ¬ cand M P d) : PO M (P ++ [c]) :=
  ⟨p.b.push h1 h2 h3, fun k d e => by
    by_cases l : k < P.length
    · rw [List.getElem?_append_left l] at e
      rw [List.take_append_of_le_length (by omega)]
      exact p.o k d e
    · have : k = P.length := by have := (List.getElem?_eq_some_iff.1 e).1; simp at this; omega
      subst this
      rw [List.getElem?_append_right (Nat.le_refl _), Nat.sub_self] at e
      cases e
      rw [List.take_left']
      · exact h2.2.2
      · rfl⟩
theorem PO.sq : ∀ k, PO M (sqB M k) ∧ ((sqB M k).length = k ∨ ∀ c, c < M.length → ¬ cand M (sqB M k) c)
  | 0 => ⟨⟨PB.nil, fun k c e => by simp [sqB] at e⟩, .inl rfl⟩
  | k + 1 => by
    obtain ⟨p, q⟩ := PO.sq k
    by_cases c : ∃ c, c < M.length ∧ cand M (sqB M k) c
    · obtain ⟨c0, hc, hd⟩ := c
      obtain ⟨m, a, b, e⟩ := leastN (p := cand M (sqB M k)) c0 hd
      have e2 : sqB M (k + 1) = sqB M k ++ [m] := nxB_t (by omega) b e
      rw [e2]
      refine ⟨p.push (by omega) b e, .inl ?_⟩
      rcases q with q | q
      · simp [q]
      · exact absurd hd (q c0 hc)
    · have h : ∀ c, c < M.length → ¬ cand M (sqB M k) c := fun d hd x => c ⟨d, hd, x⟩
      have e2 : sqB M (k + 1) = sqB M k := nxB_f h
      rw [e2]
      exact ⟨p, .inr h⟩
theorem sq_ok : PO M (seqB M) ∧ ∀ c, c < M.length → ¬ cand M (seqB M) c := by
  obtain ⟨p, q⟩ := PO.sq (M := M) M.length
  refine ⟨p, fun c hc => ?_⟩
  rcases q with q | q
  · intro hd
    have := nodup_le (n := M.length) (nodup_snoc p.b.d hd.2.1) (fun d hd => by
      rcases List.mem_append.1 hd with y | y
      · exact (p.b.l d y).1
      · rw [List.mem_singleton] at y; omega)
    rw [List.length_append, q, List.length_singleton] at this
    omega
  · exact q c hc
theorem cm_at {c : Nat} : ∀ {k i : Nat} {z : Int}, (cmL M c k)[i]? = some z → ∃ u : Nat, u < k ∧ z = u ∧ clN M u = c
  | 0, i, z, h => by simp [cmL] at h
  | k + 1, i, z, h => by
    by_cases e : clN M k = c
    · rw [cmL_t e] at h
      by_cases l : i < (cmL M c k).length
      · rw [List.getElem?_append_left l] at h
        obtain ⟨u, a, b⟩ := cm_at h
        exact ⟨u, by omega, b⟩
      · rw [List.getElem?_append_right (by omega)] at h
        have : i - (cmL M c k).length = 0 := by have := (List.getElem?_eq_some_iff.1 h).1; simp at this; omega
        rw [this] at h
        cases h
        exact ⟨k, by omega, rfl, e⟩
    · rw [cmL_f e] at h
      obtain ⟨u, a, b⟩ := cm_at h
      exact ⟨u, by omega, b⟩
theorem cm_mem {c z : Nat} (h : clN M z = c) : ∀ {k}, z < k → ∃ i : Nat, (cmL M c k)[i]? = some (z : Int)
  | 0, hk => by omega
  | k + 1, hk => by
    by_cases e : z = k
    · subst e
      rw [cmL_t h]
      exact ⟨(cmL M c z).length, by rw [List.getElem?_append_right (Nat.le_refl _), Nat.sub_self]; rfl⟩
    · obtain ⟨i, hi⟩ := cm_mem h (k := k) (by omega)
      by_cases f : clN M k = c
      · rw [cmL_t f]
        exact ⟨i, by rw [List.getElem?_append_left (List.getElem?_eq_some_iff.1 hi).1]; exact hi⟩
      · rw [cmL_f f]; exact ⟨i, hi⟩
structure AtI (M : List (List Int)) (k i : Nat) (f : Nat → Int) : Prop where
  a : ∀ z j, z < M.length → (seqB M)[j]? = some (clN M z) → j < k → f z = j
  b : ∀ c (i' z : Nat), (seqB M)[k]? = some c → i' < i → (cmL M c M.length)[i']? = some (z : Int) → f z = k
theorem AtI.set {k i c z : Nat} {f : Nat → Int} (t : AtI M k i f) (hc : (seqB M)[k]? = some c) (hz : (cmL M c M.length)[i]? = some (z : Int)) : AtI M k (i + 1) (fun x => if x = z then (k : Int) else f x) := by
  have nd := (sq_ok (M := M)).1.b.d
  obtain ⟨u, _, e, e2⟩ := cm_at hz
  have : u = z := by omega
  subst this
  refine ⟨fun x j hx hj hk => ?_, fun c' i' x hc' hi hx => ?_⟩
  · by_cases q : x = u
    · subst q
      rw [e2] at hj
      have := nd_inj nd hj hc; omega
    · rw [if_neg q]; exact t.a x j hx hj hk
  · by_cases q : x = u
    · rw [if_pos q]
    · rw [if_neg q]
      refine t.b c' i' x hc' ?_ hx
      rcases Nat.lt_or_ge i' i with a | a
      · exact a
      · have : i' = i := by omega
        subst this
        rw [hc] at hc'; cases hc'
        rw [hz] at hx
        have : (u : Int) = x := Option.some.inj hx
        omega
theorem AtI.next {k c : Nat} {f : Nat → Int} (t : AtI M k (cmL M c M.length).length f) (hc : (seqB M)[k]? = some c) : AtI M (k + 1) 0 f := by
  refine ⟨fun z j hz hj hk => ?_, fun c' i' z _ h => by omega⟩
  by_cases e : j = k
  · subst e
    rw [hc] at hj
    have e2 : clN M z = c := (Option.some.inj hj).symm
    obtain ⟨i, hi⟩ := cm_mem e2 hz
    exact t.b c i z hc (List.getElem?_eq_some_iff.1 hi).1 hi
  · exact t.a z j hz hj (by omega)
end
structure Ord (n : Nat) (o : Nat → Nat) : Prop where
  lt : ∀ i, i < n → o i < n
  inj : ∀ i j, i < n → j < n → o i = o j → i = j
theorem Ord.surj {n : Nat} {o : Nat → Nat} (p : Ord n o) {v : Nat} (hv : v < n) : ∃ i, i < n ∧ o i = v := by
  refine Classical.byContradiction fun c => ?_
  obtain ⟨i, j, h1, h2, h3⟩ := pigeon n (fun i => if i = n then v else o i) fun i hi => by
    by_cases e : i = n
    · simp only [e, if_true]; exact hv
    · simp only [e, if_false]; exact p.lt i (by omega)
  by_cases e : j = n
  · simp only [e, show ¬ i = n by omega, if_true, if_false] at h3
    exact c ⟨i, by omega, h3⟩
  · simp only [e, show ¬ i = n by omega, if_false] at h3
    have := p.inj i j (by omega) (by omega) h3
    omega
theorem Ord.sum {n : Nat} {o : Nat → Nat} (p : Ord n o) (f : Nat → Int) : sm (fun h => f (o h)) n = sm f n := by
  have e1 : sm f n = sm (fun h => sm (fun i => if o i = h then f h else 0) n) n := sm_congr fun h hh => by
    obtain ⟨i, hi, e⟩ := p.surj hh
    rw [sm_one hi (fun j hj ne => if_neg fun q => ne (p.inj j i hj hi (q.trans e.symm))), if_pos e]
  have e2 : sm (fun h => f (o h)) n = sm (fun i => sm (fun h => if o i = h then f h else 0) n) n := sm_congr fun i hi => by
    rw [sm_one (p.lt i hi) (fun j hj ne => if_neg fun q => ne q.symm), if_pos rfl]
  rw [e1, e2, sm_swap]
section
variable {N Y Z : List (List Int)} {o : Nat → Nat}
structure Ren (N Y : List (List Int)) (o : Nat → Nat) : Prop where
  p : Ord N.length o
  l : Y.length = N.length
  e : ∀ i j, i < N.length → j < N.length → ent Y (o i) (o j) = ent N i j
  m : isMat N = true
  my : isMat Y = true
theorem Ren.wk (r : Ren N Y o) : ∀ {k i j}, i < N.length → j < N.length → (Wk Y k (o i) (o j) ↔ Wk N k i j)
  | 0, i, j, hi, hj => ⟨fun h => r.p.inj i j hi hj h, fun h => congrArg o h⟩
  | k + 1, i, j, hi, hj => by
    constructor
    · rintro ⟨v, e, w⟩
      obtain ⟨u, hu, rfl⟩ := r.p.surj (by have := (ent_lt r.my e).2; rw [r.l] at this; exact this : v < N.length)
      rw [r.e i u hi hu] at e
      exact ⟨u, e, (r.wk hu hj).1 w⟩
    · rintro ⟨u, e, w⟩
      have hu := (ent_lt r.m e).2
      exact ⟨o u, by rw [r.e i u hi hu]; exact e, (r.wk hu hj).2 w⟩
theorem Ren.mu (r : Ren N Y o) {i j : Nat} (hi : i < N.length) (hj : j < N.length) : Mu Y (o i) (o j) ↔ Mu N i j :=
  ⟨fun ⟨⟨a, x⟩, ⟨b, y⟩⟩ => ⟨⟨a, (r.wk hi hj).1 x⟩, ⟨b, (r.wk hj hi).1 y⟩⟩, fun ⟨⟨a, x⟩, ⟨b, y⟩⟩ => ⟨⟨a, (r.wk hi hj).2 x⟩, ⟨b, (r.wk hj hi).2 y⟩⟩⟩
theorem Ren.cl (r : Ren N Y o) {i j : Nat} (hi : i < N.length) (hj : j < N.length) : clN Y (o i) = clN Y (o j) ↔ clN N i = clN N j := by
  rw [clN_eq r.my (by rw [r.l]; exact r.p.lt i hi) (by rw [r.l]; exact r.p.lt j hj), clN_eq r.m hi hj, r.mu hi hj]
theorem Ren.full (r : Ren N Y o) {k : Nat} : fullB Y k = fullB N k := by
  apply Bool.eq_iff_iff.2
  rw [fullB_iff r.my, fullB_iff r.m]
  constructor
  · intro h i hi j hj
    exact (r.wk hi hj).1 (h _ (by rw [r.l]; exact r.p.lt i hi) _ (by rw [r.l]; exact r.p.lt j hj))
  · intro h a ha b hb
    rw [r.l] at ha hb
    obtain ⟨i, hi, rfl⟩ := r.p.surj ha
    obtain ⟨j, hj, rfl⟩ := r.p.surj hb
    exact (r.wk hi hj).2 (h i hi j hj)
theorem Ren.ex (r : Ren N Y o) : exN Y = exN N ∧ exB Y = exB N := by
  have e : fullB Y = fullB N := funext fun k => r.full
  have e2 : exN Y = exN N := by unfold exN; rw [e, r.l]
  exact ⟨e2, by unfold exB; rw [e2, r.l]⟩
theorem Ren.sP (r : Ren N Y o) {X X' : Nat → Int} (hX : ∀ i j, i < N.length → j < N.length → X' (o i * 8 + o j) = X (i * 8 + j)) {i j : Nat} (hi : i < N.length) (hj : j < N.length) : sP Y X' (o i) (o j) N.length = Ev.sP N X i j N.length := by
  unfold Ev.sP
  rw [← r.p.sum]
  exact sm_congr fun h hh => by rw [r.e i h hi hh, hX h j hh hj]
theorem nxX_at {M : List (List Int)} (hm : isMat M = true) (X : Nat → Int) (c : Int) {i j : Nat} (hi : i < M.length) (hj : j < M.length) : nxX M X c (i * 8 + j) = if i = j then w6 (w6 (sP M X i j M.length) + c) else w6 (sP M X i j M.length) := by
  have h8 := isMat_n hm
  unfold nxX fuC
  rw [show (i * 8 + j) / 8 = i by omega, show (i * 8 + j) % 8 = j by omega, if_pos hi, if_pos hj]
theorem Ren.nx (r : Ren N Y o) {X X' : Nat → Int} (c : Int) (hX : ∀ i j, i < N.length → j < N.length → X' (o i * 8 + o j) = X (i * 8 + j)) {i j : Nat} (hi : i < N.length) (hj : j < N.length) : nxX Y X' c (o i * 8 + o j) = nxX N X c (i * 8 + j) := by
  rw [nxX_at r.my X' c (by rw [r.l]; exact r.p.lt i hi) (by rw [r.l]; exact r.p.lt j hj), nxX_at r.m X c hi hj, r.l, r.sP hX hi hj]
  by_cases e : i = j
  · rw [if_pos e, if_pos (congrArg o e)]
  · rw [if_neg e, if_neg fun q => e (r.p.inj i j hi hj q)]
theorem Ren.tr (r : Ren N Y o) {X X' : Nat → Int} (hX : ∀ i j, i < N.length → j < N.length → X' (o i * 8 + o j) = X (i * 8 + j)) : tJ Y X' N.length = tJ N X N.length := by
  unfold tJ
  rw [← r.p.sum]
  refine sm_congr fun i hi => ?_
  unfold tI
  rw [r.l, ← r.p.sum]
  exact sm_congr fun h hh => by rw [r.e i h hi hh, hX h i hh hi]
theorem Ren.pq (r : Ren N Y o) : ∀ k, (∀ i j, i < N.length → j < N.length → (pQ Y k).1 (o i * 8 + o j) = (pQ N k).1 (i * 8 + j)) ∧ (pQ Y k).2 = (pQ N k).2
  | 0 => ⟨fun _ _ _ _ => rfl, by funext t; show (if t = Y.length then (1 : Int) else 0) = if t = N.length then 1 else 0; rw [r.l]⟩
  | k + 1 => by
    obtain ⟨a, b⟩ := r.pq k
    have n1 : ∀ i j, i < N.length → j < N.length → nxX Y (pQ Y k).1 ((pQ Y k).2 (Y.length - k)) (o i * 8 + o j) = nxX N (pQ N k).1 ((pQ N k).2 (N.length - k)) (i * 8 + j) := fun i j hi hj => by
      rw [b, r.l]; exact r.nx _ a hi hj
    refine ⟨n1, ?_⟩
    funext t
    show (if t = Y.length - (k + 1) then cf (k + 1) (tJ Y (nxX Y (pQ Y k).1 ((pQ Y k).2 (Y.length - k))) Y.length) else (pQ Y k).2 t) = if t = N.length - (k + 1) then cf (k + 1) (tJ N (nxX N (pQ N k).1 ((pQ N k).2 (N.length - k))) N.length) else (pQ N k).2 t
    have := r.tr n1
    rw [b, r.l] at this ⊢
    rw [this]
structure Tra (N Z : List (List Int)) : Prop where
  l : Z.length = N.length
  e : ∀ i j, i < N.length → j < N.length → ent Z i j = ent N j i
  m : isMat N = true
  mz : isMat Z = true
theorem Tra.wk (r : Tra N Z) : ∀ {k i j}, i < N.length → j < N.length → (Wk Z k i j ↔ Wk N k j i)
  | 0, i, j, hi, hj => ⟨fun h => Eq.symm h, fun h => Eq.symm h⟩
  | k + 1, i, j, hi, hj => by
    rw [Wk.snoc (M := N)]
    constructor
    · rintro ⟨v, e, w⟩
      have hv : v < N.length := by have := (ent_lt r.mz e).2; rw [r.l] at this; exact this
      rw [r.e i v hi hv] at e
      exact ⟨v, (r.wk hv hj).1 w, e⟩
    · rintro ⟨v, w, e⟩
      have hv := (ent_lt r.m e).1
      exact ⟨v, by rw [r.e i v hi hv]; exact e, (r.wk hv hj).2 w⟩
theorem Tra.mu (r : Tra N Z) {i j : Nat} (hi : i < N.length) (hj : j < N.length) : Mu Z i j ↔ Mu N i j :=
  ⟨fun ⟨⟨a, x⟩, ⟨b, y⟩⟩ => ⟨⟨b, (r.wk hj hi).1 y⟩, ⟨a, (r.wk hi hj).1 x⟩⟩, fun ⟨⟨a, x⟩, ⟨b, y⟩⟩ => ⟨⟨b, (r.wk hi hj).2 y⟩, ⟨a, (r.wk hj hi).2 x⟩⟩⟩
theorem Tra.cl (r : Tra N Z) {i : Nat} (hi : i < N.length) : clN Z i = clN N i := by
  obtain ⟨a1, a2, a3⟩ := clN_ok r.m hi
  obtain ⟨b1, b2, b3⟩ := clN_ok r.mz (by rw [r.l]; exact hi : i < Z.length)
  have x := a3 _ ((r.mu hi (by omega)).1 b2)
  have y := b3 _ ((r.mu hi (by omega)).2 a2)
  omega
def cg (a b : Int) : Prop := (18446744073709551616 : Int) ∣ a - b
theorem cg_w6 (a : Int) : cg (w6 a) a := by unfold cg; rw [w6_eq]; omega
theorem cg_iff {a b : Int} : cg a b ↔ w6 a = w6 b := by
  unfold cg
  rw [w6_eq, w6_eq]
  omega
theorem cg.refl (a : Int) : cg a a := ⟨0, by omega⟩
theorem cg.symm {a b : Int} (h : cg a b) : cg b a := cg_iff.2 (cg_iff.1 h).symm
theorem cg.trans {a b c : Int} (h : cg a b) (g : cg b c) : cg a c := cg_iff.2 ((cg_iff.1 h).trans (cg_iff.1 g))
theorem cg.add {a b c d : Int} (h : cg a b) (g : cg c d) : cg (a + c) (b + d) := by
  have := Int.dvd_add h g
  unfold cg
  rwa [show a + c - (b + d) = a - b + (c - d) by omega]
theorem cg.mul {a b : Int} (c : Int) (h : cg a b) : cg (c * a) (c * b) := by
  obtain ⟨d, hd⟩ := h
  exact ⟨c * d, by rw [← Int.mul_sub, hd, Int.mul_left_comm]⟩
theorem cg.mulr {a b : Int} (c : Int) (h : cg a b) : cg (a * c) (b * c) := by
  rw [Int.mul_comm a, Int.mul_comm b]; exact h.mul c
theorem cg_sm {f g : Nat → Int} : ∀ {n}, (∀ h, h < n → cg (f h) (g h)) → cg (sm f n) (sm g n)
  | 0, _ => cg.refl _
  | n + 1, h => (cg_sm fun k hk => h k (by omega)).add (h n (by omega))
def rtP (M : List (List Int)) (X : Nat → Int) (i j h : Nat) : Int := sm (fun h => X (i * 8 + h) * ent M h j) h
theorem nx_cg {M : List (List Int)} (hm : isMat M = true) (X : Nat → Int) (c : Int) {i j : Nat} (hi : i < M.length) (hj : j < M.length) : cg (nxX M X c (i * 8 + j)) (sP M X i j M.length + if i = j then c else 0) := by
  rw [nxX_at hm X c hi hj]
  by_cases e : i = j
  · rw [if_pos e, if_pos e]
    exact (cg_w6 _).trans ((cg_w6 _).add (cg.refl c))
  · rw [if_neg e, if_neg e, Int.add_zero]
    exact cg_w6 _
theorem comm_nx {M : List (List Int)} (hm : isMat M = true) {X : Nat → Int} (c : Int) (h : ∀ i j, i < M.length → j < M.length → cg (sP M X i j M.length) (rtP M X i j M.length)) {i j : Nat} (hi : i < M.length) (hj : j < M.length) : cg (sP M (nxX M X c) i j M.length) (rtP M (nxX M X c) i j M.length) := by
  have l : cg (sP M (nxX M X c) i j M.length) (sm (fun h => ent M i h * sP M X h j M.length) M.length + ent M i j * c) := by
    have a : cg (sP M (nxX M X c) i j M.length) (sm (fun h => ent M i h * (sP M X h j M.length + if h = j then c else 0)) M.length) := cg_sm fun h hh => (nx_cg hm X c hh hj).mul _
    refine a.trans ?_
    have e : sm (fun h => ent M i h * (sP M X h j M.length + if h = j then c else 0)) M.length = sm (fun h => ent M i h * sP M X h j M.length + ent M i h * (if h = j then c else 0)) M.length := sm_congr fun h _ => Int.mul_add _ _ _
    rw [e, sm_add, sm_one (f := fun h => ent M i h * (if h = j then c else 0)) hj (fun k hk ne => by rw [if_neg ne, Int.mul_zero]), if_pos rfl]
    exact cg.refl _
  have r : cg (rtP M (nxX M X c) i j M.length) (sm (fun h => sP M X i h M.length * ent M h j) M.length + c * ent M i j) := by
    have a : cg (rtP M (nxX M X c) i j M.length) (sm (fun h => (sP M X i h M.length + if i = h then c else 0) * ent M h j) M.length) := cg_sm fun h hh => (nx_cg hm X c hi hh).mulr _
    refine a.trans ?_
    have e : sm (fun h => (sP M X i h M.length + if i = h then c else 0) * ent M h j) M.length = sm (fun h => sP M X i h M.length * ent M h j + (if i = h then c else 0) * ent M h j) M.length := sm_congr fun h _ => Int.add_mul _ _ _
    rw [e, sm_add, sm_one (f := fun h => (if i = h then c else 0) * ent M h j) hi (fun k hk ne => by rw [if_neg fun q => ne q.symm, Int.zero_mul]), if_pos rfl]
    exact cg.refl _
  have mid : cg (sm (fun h => ent M i h * sP M X h j M.length) M.length) (sm (fun h => sP M X i h M.length * ent M h j) M.length) := by
    have a : cg (sm (fun h => ent M i h * sP M X h j M.length) M.length) (sm (fun h => ent M i h * rtP M X h j M.length) M.length) := cg_sm fun k hk => (h k j hk hj).mul _
    refine a.trans ?_
    have e1 : sm (fun h => ent M i h * rtP M X h j M.length) M.length = sm (fun h => sm (fun k => ent M i h * (X (h * 8 + k) * ent M k j)) M.length) M.length := sm_congr fun h _ => (sm_mul _ _ _).symm
    have e2 : sm (fun h => sP M X i h M.length * ent M h j) M.length = sm (fun k => sm (fun h => (ent M i h * X (h * 8 + k)) * ent M k j) M.length) M.length := sm_congr fun k _ => (sm_mulr _ _ _).symm
    rw [e1, e2, sm_swap]
    have e3 : sm (fun k => sm (fun h => ent M i h * (X (h * 8 + k) * ent M k j)) M.length) M.length = sm (fun k => sm (fun h => (ent M i h * X (h * 8 + k)) * ent M k j) M.length) M.length := sm_congr fun k _ => sm_congr fun h _ => (Int.mul_assoc _ _ _).symm
    rw [e3]
    exact cg.refl _
  refine l.trans ((mid.add (cg.refl _)).trans ?_)
  rw [Int.mul_comm (ent M i j) c]
  exact r.symm
theorem comm_pq {M : List (List Int)} (hm : isMat M = true) : ∀ k, ∀ i j, i < M.length → j < M.length → cg (sP M (pQ M k).1 i j M.length) (rtP M (pQ M k).1 i j M.length)
  | 0 => fun i j hi hj => by
    have e1 : sP M (pQ M 0).1 i j M.length = 0 := by
      unfold sP
      rw [sm_congr (f := fun h => ent M i h * (pQ M 0).1 (h * 8 + j)) (g := fun _ => 0) fun h _ => Int.mul_zero _, sm_zero]
    have e2 : rtP M (pQ M 0).1 i j M.length = 0 := by
      unfold rtP
      rw [sm_congr (f := fun h => (pQ M 0).1 (i * 8 + h) * ent M h j) (g := fun _ => 0) fun h _ => Int.zero_mul _, sm_zero]
    rw [e1, e2]; exact cg.refl _
  | k + 1 => fun i j hi hj => comm_nx hm _ (comm_pq hm k) hi hj
theorem Tra.sP (r : Tra N Z) {X X' : Nat → Int} (hX : ∀ i j, i < N.length → j < N.length → X' (i * 8 + j) = X (j * 8 + i)) {i j : Nat} (hi : i < N.length) (hj : j < N.length) : Ev.sP Z X' i j N.length = rtP N X j i N.length :=
  sm_congr fun h hh => by rw [r.e i h hi hh, hX h j hh hj, Int.mul_comm]
theorem Tra.nx (r : Tra N Z) {X X' : Nat → Int} (c : Int) (hX : ∀ i j, i < N.length → j < N.length → X' (i * 8 + j) = X (j * 8 + i)) (hc : ∀ i j, i < N.length → j < N.length → cg (Ev.sP N X i j N.length) (rtP N X i j N.length)) {i j : Nat} (hi : i < N.length) (hj : j < N.length) : nxX Z X' c (i * 8 + j) = nxX N X c (j * 8 + i) := by
  rw [nxX_at r.mz X' c (by rw [r.l]; exact hi) (by rw [r.l]; exact hj), nxX_at r.m X c hj hi, r.l, r.sP hX hi hj, cg_iff.1 (hc j i hj hi)]
  by_cases e : i = j
  · rw [if_pos e, if_pos e.symm]
  · rw [if_neg e, if_neg fun q => e q.symm]
theorem Tra.tr (r : Tra N Z) {X X' : Nat → Int} (hX : ∀ i j, i < N.length → j < N.length → X' (i * 8 + j) = X (j * 8 + i)) : tJ Z X' N.length = tJ N X N.length := by
  unfold tJ
  have e : sm (fun i => tI Z X' i Z.length) N.length = sm (fun i => sm (fun h => ent N h i * X (i * 8 + h)) N.length) N.length := sm_congr fun i hi => by
    unfold tI
    rw [r.l]
    exact sm_congr fun h hh => by rw [r.e i h hi hh, hX h i hh hi]
  rw [e, sm_swap]
  rfl
theorem Tra.pq (r : Tra N Z) : ∀ k, (∀ i j, i < N.length → j < N.length → (pQ Z k).1 (i * 8 + j) = (pQ N k).1 (j * 8 + i)) ∧ (pQ Z k).2 = (pQ N k).2
  | 0 => ⟨fun _ _ _ _ => rfl, by funext t; show (if t = Z.length then (1 : Int) else 0) = if t = N.length then 1 else 0; rw [r.l]⟩
  | k + 1 => by
    obtain ⟨a, b⟩ := r.pq k
    have n1 : ∀ i j, i < N.length → j < N.length → nxX Z (pQ Z k).1 ((pQ Z k).2 (Z.length - k)) (i * 8 + j) = nxX N (pQ N k).1 ((pQ N k).2 (N.length - k)) (j * 8 + i) := fun i j hi hj => by
      rw [b, r.l]; exact r.nx _ a (comm_pq r.m k) hi hj
    refine ⟨n1, ?_⟩
    funext t
    show (if t = Z.length - (k + 1) then cf (k + 1) (tJ Z (nxX Z (pQ Z k).1 ((pQ Z k).2 (Z.length - k))) Z.length) else (pQ Z k).2 t) = if t = N.length - (k + 1) then cf (k + 1) (tJ N (nxX N (pQ N k).1 ((pQ N k).2 (N.length - k))) N.length) else (pQ N k).2 t
    have := r.tr n1
    rw [b, r.l] at this ⊢
    rw [this]
end
abbrev Po := List (Nat × Int)
def eM (x : Nat → Int) : Nat → Nat → Nat → Int
  | 0, _, _ => 1
  | m + 1, v, c => x v ^ (c % 8) * eM x m (v + 1) (c / 8)
def eP (x : Nat → Int) : Po → Int
  | [] => 0
  | t :: p => t.2 * eM x 25 0 t.1 + eP x p
def mulV (v : Nat) (p : Po) : Po := p.map fun t => (t.1 + 8 ^ v, t.2)
def okV (v : Nat) (p : Po) : Bool := p.all fun t => Nat.blt ((t.1 / 8 ^ v) % 8) 7
def mg : Nat → Po → Po → Po
  | 0, p, q => p ++ q
  | f + 1, [], q => q
  | f + 1, a :: p, [] => a :: p
  | f + 1, a :: p, b :: q => if Nat.blt a.1 b.1 then a :: mg f p (b :: q) else if Nat.blt b.1 a.1 then b :: mg f (a :: p) q else if a.2 + b.2 = 0 then mg f p q else (a.1, a.2 + b.2) :: mg f p q
def fP {β : Sort _} : Po → (Po → β) → β
  | [], k => k []
  | (c, z) :: p, k => forceN c fun c => forceI z fun z => fP p fun p => k ((c, z) :: p)
theorem fP_eq {β : Sort _} (p : Po) (k : Po → β) : fP p k = k p := by
  induction p generalizing k with
  | nil => rfl
  | cons t p ih => obtain ⟨c, z⟩ := t; simp [fP, forceN_eq, forceI_eq, ih]
def dotS (n : Nat) (B : List Po) (i j : Nat) : Nat → Po
  | 0 => []
  | h + 1 => fP (dotS n B i j h) fun a => fP (mulV (i * n + h) (B.getD (h * n + j) [])) fun b => mg 4000 a b
def okD (n : Nat) (B : List Po) (i j : Nat) : Nat → Bool
  | 0 => true
  | h + 1 => okV (i * n + h) (B.getD (h * n + j) []) && okD n B i j h
def fL {β : Sort _} : List Po → (List Po → β) → β
  | [], k => k []
  | p :: l, k => fP p fun p => fL l fun l => k (p :: l)
theorem fL_eq {β : Sort _} (p : List Po) (k : List Po → β) : fL p k = k p := by
  induction p generalizing k with
  | nil => rfl
  | cons t p ih => simp [fL, fP_eq, ih]
def nxS (n : Nat) (B : List Po) (c : Po) : List Po := (List.range (n * n)).map fun t => mg 4000 (dotS n B (t / n) (t % n) n) (if t / n = t % n then c else [])
def okN (n : Nat) (B : List Po) : Bool := (List.range (n * n)).all fun t => okD n B (t / n) (t % n) n
def trS (n : Nat) (B : List Po) : Nat → Po
  | 0 => []
  | i + 1 => fP (trS n B i) fun a => fP (dotS n B i i n) fun b => mg 4000 a b
def okT (n : Nat) (B : List Po) : Bool := (List.range n).all fun i => okD n B i i n
def divS (k : Nat) (T : Po) : Po := T.map fun t => (t.1, -(t.2 / k))
def okS (k : Nat) (T : Po) : Bool := T.all fun t => t.2 % k == 0
def runS (n : Nat) : Nat → Nat → List Po → Po → Bool
  | 0, _, B, c => okN n B && (nxS n B c).all fun p => p.isEmpty
  | d + 1, k, B, c => okN n B && fL (nxS n B c) fun B' => fP (trS n B' n) fun T => okT n B' && okS (k + 1) T && fP (divS (k + 1) T) fun c' => runS n d (k + 1) B' c'
def chS (n : Nat) : Bool := runS n n 0 (List.replicate (n * n) []) [(0, 1)]
theorem ch1 : chS 1 = true := by decide +kernel
theorem ch2 : chS 2 = true := by decide +kernel
theorem ch3 : chS 3 = true := by decide +kernel
theorem ch4 : chS 4 = true := by decide +kernel
theorem ch5 : chS 5 = true := by decide +kernel
section
variable {x : Nat → Int}
theorem eP_app : ∀ p q : Po, eP x (p ++ q) = eP x p + eP x q
  | [], q => (Int.zero_add _).symm
  | t :: p, q => by
    show t.2 * eM x 25 0 t.1 + eP x (p ++ q) = t.2 * eM x 25 0 t.1 + eP x p + eP x q
    rw [eP_app p q]; omega
theorem eP_mg : ∀ f (p q : Po), eP x (mg f p q) = eP x p + eP x q
  | 0, p, q => eP_app p q
  | f + 1, [], q => (Int.zero_add _).symm
  | f + 1, a :: p, [] => (Int.add_zero _).symm
  | f + 1, a :: p, b :: q => by
    unfold mg
    by_cases h1 : Nat.blt a.1 b.1 = true
    · rw [if_pos h1]
      show a.2 * eM x 25 0 a.1 + eP x (mg f p (b :: q)) = a.2 * eM x 25 0 a.1 + eP x p + eP x (b :: q)
      rw [eP_mg f p (b :: q)]; omega
    · rw [if_neg h1]
      by_cases h2 : Nat.blt b.1 a.1 = true
      · rw [if_pos h2]
        show b.2 * eM x 25 0 b.1 + eP x (mg f (a :: p) q) = eP x (a :: p) + (b.2 * eM x 25 0 b.1 + eP x q)
        rw [eP_mg f (a :: p) q]; omega
      · rw [if_neg h2]
        have e : a.1 = b.1 := by
          have h1' : ¬ a.1 < b.1 := fun h => h1 (by simpa [Nat.blt_eq] using h)
          have h2' : ¬ b.1 < a.1 := fun h => h2 (by simpa [Nat.blt_eq] using h)
          omega
        have s : eP x (a :: p) + eP x (b :: q) = (a.2 + b.2) * eM x 25 0 a.1 + (eP x p + eP x q) := by
          show a.2 * eM x 25 0 a.1 + eP x p + (b.2 * eM x 25 0 b.1 + eP x q) = _
          rw [← e, Int.add_mul]; omega
        by_cases h3 : a.2 + b.2 = 0
        · rw [if_pos h3, s, h3, Int.zero_mul, Int.zero_add, eP_mg f p q]
        · rw [if_neg h3, s]
          show (a.2 + b.2) * eM x 25 0 a.1 + eP x (mg f p q) = _
          rw [eP_mg f p q]
theorem eM_mul : ∀ v m s c, v < m → (c / 8 ^ v) % 8 < 7 → eM x m s (c + 8 ^ v) = x (s + v) * eM x m s c
  | 0, m + 1, s, c, _, h => by
    rw [Nat.pow_zero, Nat.div_one] at h
    unfold eM
    rw [Nat.pow_zero, show (c + 1) % 8 = c % 8 + 1 by omega, show (c + 1) / 8 = c / 8 by omega, Nat.add_zero, Int.pow_succ, Int.mul_comm (x s ^ (c % 8)) (x s), Int.mul_assoc]
    rfl
  | v + 1, m + 1, s, c, hv, h => by
    have hp : 8 ^ (v + 1) = 8 * 8 ^ v := by rw [Nat.pow_succ, Nat.mul_comm]
    have e1 : (c + 8 ^ (v + 1)) % 8 = c % 8 := by rw [hp, Nat.add_mul_mod_self_left]
    have e2 : (c + 8 ^ (v + 1)) / 8 = c / 8 + 8 ^ v := by rw [hp, Nat.add_mul_div_left _ _ (by omega)]
    rw [hp, ← Nat.div_div_eq_div_mul] at h
    have ih := eM_mul v m (s + 1) (c / 8) (by omega) h
    unfold eM
    rw [e1, e2, ih, show s + 1 + v = s + (v + 1) by omega]
    rw [← Int.mul_assoc, ← Int.mul_assoc, Int.mul_comm (x s ^ (c % 8)) (x (s + (v + 1)))]
  | v, 0, s, c, hv, _ => by omega
theorem eP_mul {v : Nat} (hv : v < 25) : ∀ p : Po, okV v p = true → eP x (mulV v p) = x v * eP x p
  | [], _ => (Int.mul_zero _).symm
  | t :: p, h => by
    unfold okV at h
    rw [List.all_cons, Bool.and_eq_true] at h
    have h1 : (t.1 / 8 ^ v) % 8 < 7 := by simpa [Nat.blt_eq] using h.1
    show t.2 * eM x 25 0 (t.1 + 8 ^ v) + eP x (mulV v p) = x v * (t.2 * eM x 25 0 t.1 + eP x p)
    rw [eM_mul v 25 0 t.1 hv h1, eP_mul hv p h.2, Nat.zero_add, Int.mul_add, Int.mul_left_comm]
theorem eP_dot {n : Nat} {B : List Po} {i j : Nat} (hi : i < n) (h5 : n ≤ 5) : ∀ h, h ≤ n → okD n B i j h = true → eP x (dotS n B i j h) = sm (fun h => x (i * n + h) * eP x (B.getD (h * n + j) [])) h
  | 0, _, _ => rfl
  | h + 1, hh, o => by
    unfold okD at o
    rw [Bool.and_eq_true] at o
    have lt : i * n + h < 25 := by
      have : i * n + n ≤ n * n := by
        have := Nat.mul_le_mul_right n (show i + 1 ≤ n by omega)
        rwa [Nat.succ_mul] at this
      have : n * n ≤ 5 * 5 := Nat.mul_le_mul h5 h5
      omega
    unfold dotS
    rw [fP_eq, fP_eq, eP_mg, eP_dot hi h5 h (by omega) o.2, eP_mul lt _ o.1]
    rfl
theorem nxS_at {n : Nat} {B : List Po} {c : Po} {i j : Nat} (hi : i < n) (hj : j < n) : (nxS n B c).getD (i * n + j) [] = mg 4000 (dotS n B i j n) (if i = j then c else []) := by
  have lt : i * n + j < n * n := by
    have := Nat.mul_le_mul_right n (show i + 1 ≤ n by omega)
    rw [Nat.succ_mul] at this
    omega
  have e1 : (i * n + j) / n = i := by rw [Nat.mul_comm, Nat.mul_add_div (by omega), Nat.div_eq_of_lt hj]; omega
  have e2 : (i * n + j) % n = j := by rw [Nat.mul_comm, Nat.mul_add_mod, Nat.mod_eq_of_lt hj]
  unfold nxS
  rw [List.getD_eq_getElem?_getD, List.getElem?_map, List.getElem?_range lt]
  simp only [Option.map_some, Option.getD_some, e1, e2]
theorem okN_at {n : Nat} {B : List Po} (h : okN n B = true) {i j : Nat} (hi : i < n) (hj : j < n) : okD n B i j n = true := by
  have lt : i * n + j < n * n := by
    have := Nat.mul_le_mul_right n (show i + 1 ≤ n by omega)
    rw [Nat.succ_mul] at this
    omega
  have e1 : (i * n + j) / n = i := by rw [Nat.mul_comm, Nat.mul_add_div (by omega), Nat.div_eq_of_lt hj]; omega
  have e2 : (i * n + j) % n = j := by rw [Nat.mul_comm, Nat.mul_add_mod, Nat.mod_eq_of_lt hj]
  unfold okN at h
  rw [List.all_eq_true] at h
  have := h (i * n + j) (List.mem_range.2 lt)
  rwa [e1, e2] at this
theorem eP_tr {n : Nat} {B : List Po} (h5 : n ≤ 5) (o : okT n B = true) : ∀ k, k ≤ n → eP x (trS n B k) = sm (fun i => sm (fun h => x (i * n + h) * eP x (B.getD (h * n + i) [])) n) k
  | 0, _ => rfl
  | k + 1, hk => by
    have ok : okD n B k k n = true := by
      unfold okT at o
      rw [List.all_eq_true] at o
      exact o k (List.mem_range.2 (by omega))
    unfold trS
    rw [fP_eq, fP_eq, eP_mg, eP_tr h5 o k (by omega), eP_dot (show k < n by omega) h5 n (Nat.le_refl _) ok]
    rfl
theorem eP_div {k : Nat} : ∀ T : Po, okS k T = true → (k : Int) * eP x (divS k T) = -eP x T
  | [], _ => by show (k : Int) * 0 = -0; omega
  | t :: T, h => by
    unfold okS at h
    rw [List.all_cons, Bool.and_eq_true] at h
    have h1 : t.2 % (k : Int) = 0 := by simpa using h.1
    have e := Int.mul_ediv_cancel' (Int.dvd_of_emod_eq_zero h1)
    show (k : Int) * (-(t.2 / k) * eM x 25 0 t.1 + eP x (divS k T)) = -(t.2 * eM x 25 0 t.1 + eP x T)
    rw [Int.mul_add, eP_div T h.2, ← Int.mul_assoc, Int.mul_neg, e, Int.neg_mul]
    omega
theorem run_ok {n : Nat} (h5 : n ≤ 5) : ∀ d k B c, runS n d k B c = true → ∃ (X : Nat → Nat → Nat → Int) (cE : Nat → Int), (∀ i j, X 0 i j = eP x (B.getD (i * n + j) [])) ∧ cE 0 = eP x c ∧
    (∀ m, m < d → (∀ i j, i < n → j < n → X (m + 1) i j = sm (fun h => x (i * n + h) * X m h j) n + if i = j then cE m else 0) ∧ ((k + m + 1 : Nat) : Int) * cE (m + 1) = -sm (fun i => sm (fun h => x (i * n + h) * X (m + 1) h i) n) n) ∧
    ∀ i j, i < n → j < n → sm (fun h => x (i * n + h) * X d h j) n + (if i = j then cE d else 0) = 0
  | 0, k, B, c, h => by
    unfold runS at h
    rw [Bool.and_eq_true] at h
    refine ⟨fun _ i j => eP x (B.getD (i * n + j) []), fun _ => eP x c, fun _ _ => rfl, rfl, fun m hm => by omega, fun i j hi hj => ?_⟩
    have e := nxS_at (B := B) (c := c) hi hj
    have z : (nxS n B c).getD (i * n + j) [] = [] := by
      rw [List.getD_eq_getElem?_getD]
      cases hg : (nxS n B c)[i * n + j]? with
      | none => rfl
      | some p =>
        have := List.all_eq_true.1 h.2 p (List.mem_of_getElem? hg)
        simpa using this
    have s := eP_mg (x := x) 4000 (dotS n B i j n) (if i = j then c else [])
    rw [← e, z, eP_dot hi h5 n (Nat.le_refl _) (okN_at h.1 hi hj)] at s
    have f : eP x (if i = j then c else []) = if i = j then eP x c else 0 := by split <;> rfl
    rw [f] at s
    exact s.symm
  | d + 1, k, B, c, h => by
    unfold runS at h
    rw [fL_eq, fP_eq, fP_eq, Bool.and_eq_true, Bool.and_eq_true, Bool.and_eq_true] at h
    obtain ⟨o1, ⟨o2, o3⟩, r⟩ := h
    obtain ⟨X, cE, a, b, e, f⟩ := run_ok h5 d (k + 1) _ _ r
    refine ⟨fun m => match m with | 0 => fun i j => eP x (B.getD (i * n + j) []) | m + 1 => X m, fun m => match m with | 0 => eP x c | m + 1 => cE m, fun _ _ => rfl, rfl, fun m hm => ?_, f⟩
    cases m with
    | zero =>
      refine ⟨fun i j hi hj => ?_, ?_⟩
      · show X 0 i j = _
        rw [a, nxS_at hi hj, eP_mg, eP_dot hi h5 n (Nat.le_refl _) (okN_at o1 hi hj)]
        congr 1
        split <;> rfl
      · show ((k + 0 + 1 : Nat) : Int) * cE 0 = -sm (fun i => sm (fun h => x (i * n + h) * X 0 h i) n) n
        rw [b, Nat.add_zero, eP_div _ o3, eP_tr h5 o2 n (Nat.le_refl _)]
        congr 1
        exact sm_congr fun i _ => sm_congr fun h _ => by rw [a]
    | succ m =>
      obtain ⟨p, q⟩ := e m (by omega)
      refine ⟨p, ?_⟩
      have : k + (m + 1) + 1 = k + 1 + m + 1 := by omega
      rw [this]; exact q
end
end Go.Proofs.Ytjeemgaoonapgaa.Ev
set_option linter.unusedVariables false
set_option linter.unusedSimpArgs false
namespace Go.Proofs.Ytjeemgaoonapgaa.Ev
open Go Go.AEv
attribute [local simp] evFunc initS evOps_c evTrim_c evSkip_c evExit_c evRet_c evSeq_c evCond_c evBlock_c evDraw_c runOps_n runOps_c exec_n exec_g pure1_c act AOpd.ev T.get T.set T.put evBin evUn forceT_eq forceV_eq forceL_eq evRess evRes one keep runFP_n runFP_c app_none AV.flats AV.flat came_some List.getElem?_cons_zero List.getElem?_cons_succ beqT wrapI idxI tdivI tmodI decT decF ibT ibF inT inF evScope_c if_pos if_neg Cm_some thenW_n thenW_e thenW_r blkW_n blkW_e blkW_r goI kn putAt AV.cells fillA loadA takeA mk Eff.isAll Eff.isNone Eff.commutes Eff.spares okPair apart eqAgg fits LK.fits allEq aveq eqk mmA
structure SO (lo S : Nat) (A h : Heap) (ZZ : List AV) : Prop where
  k : Kp (fun b => lo ≤ b ∧ b < S) A h
  r : ∀ r ∈ ZZ, ∃ b cs, r = .slice b 0 cs.length cs.length ∧ h.get b = .cells 1 cs.length cs ∧ lo ≤ b ∧ b < S ∧ cs.length ≤ 100
theorem SO.put {lo S : Nat} {A h : Heap} {ZZ : List AV} (t : SO lo S A h ZZ) {b n : Nat} {cs cs' : List AV} (hA : A.N ≤ lo) (g : h.get b = .cells 1 n cs) (h1 : lo ≤ b ∧ b < S) (hl : cs.length = n) (hl' : cs'.length = n) : SO lo S A (h.upd b (.cells 1 n cs')) ZZ := by
  have hN : h.N ≤ b := by rw [t.k.N]; omega
  refine ⟨t.k.trans (Kp.upd h b _ hN h1), fun r hr => ?_⟩
  obtain ⟨b2, c2, e1, e2, e3⟩ := t.r r hr
  by_cases e : b2 = b
  · subst e
    rw [g] at e2
    simp only [AObj.cells.injEq, true_and] at e2
    obtain ⟨e2, _⟩ := e2
    refine ⟨b2, cs', ?_, ?_, e3.1, e3.2.1, by omega⟩
    · rw [e1, hl', e2]
    · rw [upd_same _ _ _ hN (get_lt g (by simp)), hl']
  · exact ⟨b2, c2, e1, by rw [upd_ne _ _ _ _ hN (fun q => e q.symm)]; exact e2, e3⟩
section
variable {M : List (List Int)}
theorem pwX_1 (hm : isMat M = true) {i j : Nat} (hi : i < M.length) (hj : j < M.length) : pwX M 1 (i * 8 + j) = ent M i j := by
  have h8 := isMat_n hm
  rw [pwX_s hi (by omega), sm_one hi (fun k hk hne => by
    show onF M.length (i * 8 + k) * ent M k j = 0
    unfold onF
    rw [if_neg (by omega), Int.zero_mul])]
  show onF M.length (i * 8 + i) * ent M i j = ent M i j
  unfold onF
  rw [if_pos (by omega), Int.one_mul]
end
end Go.Proofs.Ytjeemgaoonapgaa.Ev
set_option linter.unusedVariables false
set_option linter.unusedSimpArgs false
namespace Go.Proofs.Ytjeemgaoonapgaa.Ev
open Go Go.AEv
theorem eM_0 (x : Nat → Int) : ∀ m s, eM x m s 0 = 1
  | 0, _ => rfl
  | m + 1, s => by
    unfold eM
    rw [Nat.zero_mod, Nat.zero_div, eM_0 x m (s + 1), Int.pow_zero, Int.one_mul]
theorem w6_id {x : Int} (h1 : -9223372036854775808 ≤ x) (h2 : x < 9223372036854775808) : w6 x = x := by rw [w6_eq]; omega
theorem sm_bd {f : Nat → Int} {B : Int} : ∀ {n : Nat}, (∀ h, h < n → -B ≤ f h ∧ f h ≤ B) → -((n : Int) * B) ≤ sm f n ∧ sm f n ≤ (n : Int) * B
  | 0, _ => by show -((0 : Nat) * B) ≤ (0 : Int) ∧ (0 : Int) ≤ (0 : Nat) * B; simp
  | n + 1, h => by
    have a := sm_bd (n := n) fun k hk => h k (by omega)
    have b := h n (by omega)
    have e : ((n + 1 : Nat) : Int) * B = n * B + B := by rw [Int.natCast_add, Int.add_mul]; simp
    show -(((n + 1 : Nat) : Int) * B) ≤ sm f n + f n ∧ sm f n + f n ≤ ((n + 1 : Nat) : Int) * B
    rw [e]; omega
theorem mulBd {a v B : Int} (ha : 0 ≤ a ∧ a ≤ 9) (hv : -B ≤ v ∧ v ≤ B) : -(9 * B) ≤ a * v ∧ a * v ≤ 9 * B := by
  have hB : 0 ≤ B := by omega
  have h1 : a * v ≤ a * B := Int.mul_le_mul_of_nonneg_left hv.2 ha.1
  have h2 : a * B ≤ 9 * B := Int.mul_le_mul_of_nonneg_right ha.2 hB
  have h3 : a * (-B) ≤ a * v := Int.mul_le_mul_of_nonneg_left hv.1 ha.1
  rw [Int.mul_neg] at h3
  omega
theorem sm_shift (g : Nat → Int) : ∀ m, sm (fun t => g (t + 1)) m + g 0 = sm g (m + 1)
  | 0 => by show (0 : Int) + g 0 = 0 + g 0; rfl
  | m + 1 => by
    show sm (fun t => g (t + 1)) m + g (m + 1) + g 0 = sm g (m + 1) + g (m + 1)
    rw [← sm_shift g m]; omega
section
variable {N : List (List Int)}
structure CH (N : List (List Int)) (X : Nat → Nat → Nat → Int) (cE : Nat → Int) : Prop where
  x0 : ∀ i j, i < N.length → j < N.length → X 0 i j = 0
  c0 : cE 0 = 1
  nx : ∀ m, m < N.length → ∀ i j, i < N.length → j < N.length → X (m + 1) i j = sm (fun h => ent N i h * X m h j) N.length + if i = j then cE m else 0
  tr : ∀ m, m < N.length → ((m + 1 : Nat) : Int) * cE (m + 1) = -sm (fun i => sm (fun h => ent N i h * X (m + 1) h i) N.length) N.length
  fin : ∀ i j, i < N.length → j < N.length → sm (fun h => ent N i h * X N.length h j) N.length + (if i = j then cE N.length else 0) = 0
theorem ch_ex (hm : isMat N = true) (h5 : N.length ≤ 5) : ∃ X cE, CH N X cE := by
  have h8 := isMat_n hm
  have ch : chS N.length = true := by
    have : N.length = 1 ∨ N.length = 2 ∨ N.length = 3 ∨ N.length = 4 ∨ N.length = 5 := by omega
    rcases this with e | e | e | e | e <;> rw [e]
    · exact ch1
    · exact ch2
    · exact ch3
    · exact ch4
    · exact ch5
  have ev : ∀ i h, h < N.length → ent N ((i * N.length + h) / N.length) ((i * N.length + h) % N.length) = ent N i h := fun i h hh => by
    have e1 : (i * N.length + h) / N.length = i := by rw [Nat.mul_comm, Nat.mul_add_div (by omega), Nat.div_eq_of_lt hh]; omega
    have e2 : (i * N.length + h) % N.length = h := by rw [Nat.mul_comm, Nat.mul_add_mod, Nat.mod_eq_of_lt hh]
    rw [e1, e2]
  obtain ⟨X, cE, a, b, e, f⟩ := run_ok (x := fun v => ent N (v / N.length) (v % N.length)) h5 N.length 0 _ _ ch
  refine ⟨X, cE, ⟨fun i j hi hj => ?_, ?_, fun m hm' i j hi hj => ?_, fun m hm' => ?_, fun i j hi hj => ?_⟩⟩
  · rw [a]
    have lt : i * N.length + j < N.length * N.length := by
      have := Nat.mul_le_mul_right N.length (show i + 1 ≤ N.length by omega)
      rw [Nat.succ_mul] at this
      omega
    rw [List.getD_eq_getElem?_getD, List.getElem?_replicate, if_pos lt]; rfl
  · rw [b]
    show (1 : Int) * eM _ 25 0 0 + 0 = 1
    rw [eM_0]; rfl
  · rw [(e m hm').1 i j hi hj]
    congr 1
    exact sm_congr fun h hh => by rw [ev i h hh]
  · have := (e m hm').2
    rw [show 0 + m + 1 = m + 1 by omega] at this
    rw [this]
    congr 1
    exact sm_congr fun i _ => sm_congr fun h hh => by rw [ev i h hh]
  · refine Eq.trans ?_ (f i j hi hj)
    congr 1
    exact sm_congr fun h hh => by rw [ev i h hh]
variable {X : Nat → Nat → Nat → Int} {cE : Nat → Int}
theorem CH.bd (c : CH N X cE) (hm : isMat N = true) (h5 : N.length ≤ 5) : ∀ m, m ≤ N.length → (∀ i j, i < N.length → j < N.length → -((270 : Int) ^ m) ≤ X m i j ∧ X m i j ≤ 270 ^ m) ∧ -(225 * (270 : Int) ^ m) ≤ cE m ∧ cE m ≤ 225 * 270 ^ m ∧ 0 ≤ (270 : Int) ^ m
  | 0, _ => by
    refine ⟨fun i j hi hj => ?_, ?_, ?_, by decide⟩
    · rw [c.x0 i j hi hj]; decide
    · rw [c.c0]; decide
    · rw [c.c0]; decide
  | m + 1, h => by
    obtain ⟨bx, c1, c2, b0⟩ := c.bd hm h5 m (by omega)
    have hp : (270 : Int) ^ (m + 1) = 270 ^ m * 270 := Int.pow_succ _ _
    have nx : ∀ i j, i < N.length → j < N.length → -((270 : Int) ^ (m + 1)) ≤ X (m + 1) i j ∧ X (m + 1) i j ≤ 270 ^ (m + 1) := fun i j hi hj => by
      have s := sm_bd (f := fun h => ent N i h * X m h j) (B := 9 * 270 ^ m) (n := N.length) fun h hh => mulBd (ent_bd hm i h) (bx h j hh hj)
      have l5 : (N.length : Int) * (9 * 270 ^ m) ≤ 5 * (9 * 270 ^ m) := Int.mul_le_mul_of_nonneg_right (by omega) (by omega)
      rw [c.nx m (by omega) i j hi hj, hp]
      generalize (270 : Int) ^ m = B at *
      generalize (N.length : Int) * (9 * B) = L at *
      split <;> omega
    refine ⟨nx, ?_⟩
    have t := c.tr m (by omega)
    have b1 : 0 ≤ (270 : Int) ^ (m + 1) := by rw [hp]; omega
    have s := sm_bd (f := fun i => sm (fun h => ent N i h * X (m + 1) h i) N.length) (B := 45 * 270 ^ (m + 1)) (n := N.length) fun i hi => by
      have s := sm_bd (f := fun h => ent N i h * X (m + 1) h i) (B := 9 * 270 ^ (m + 1)) (n := N.length) fun h hh => mulBd (ent_bd hm i h) (nx h i hh hi)
      have l5 : (N.length : Int) * (9 * 270 ^ (m + 1)) ≤ 5 * (9 * 270 ^ (m + 1)) := Int.mul_le_mul_of_nonneg_right (by omega) (by omega)
      generalize (270 : Int) ^ (m + 1) = B at *
      generalize (N.length : Int) * (9 * B) = L at *
      omega
    have l5 : (N.length : Int) * (45 * 270 ^ (m + 1)) ≤ 5 * (45 * 270 ^ (m + 1)) := Int.mul_le_mul_of_nonneg_right (by omega) (by omega)
    generalize sm (fun i => sm (fun h => ent N i h * X (m + 1) h i) N.length) N.length = T at *
    generalize (270 : Int) ^ (m + 1) = B at *
    generalize (N.length : Int) * (45 * B) = L at *
    have hk : (1 : Int) ≤ ((m + 1 : Nat) : Int) := by omega
    generalize ((m + 1 : Nat) : Int) = k at *
    generalize cE (m + 1) = z at *
    have hz : -(225 * B) ≤ z ∧ z ≤ 225 * B := by
      by_cases z0 : 0 ≤ z
      · have : 1 * z ≤ k * z := Int.mul_le_mul_of_nonneg_right hk z0
        omega
      · have : 1 * (-z) ≤ k * (-z) := Int.mul_le_mul_of_nonneg_right hk (by omega)
        rw [Int.mul_neg k z] at this
        omega
    exact ⟨hz.1, hz.2, b1⟩
theorem p270 : ∀ d m : Nat, m + d = 5 → (270 : Int) ^ m ≤ 1434890700000 ∧ 0 ≤ (270 : Int) ^ m
  | 0, m, h => by
    obtain rfl : m = 5 := by omega
    decide
  | d + 1, m, h => by
    have a := p270 d (m + 1) (by omega)
    have hp : (270 : Int) ^ (m + 1) = 270 ^ m * 270 := Int.pow_succ _ _
    rw [hp] at a
    generalize (270 : Int) ^ m = B at *
    omega
theorem CH.lim (c : CH N X cE) (hm : isMat N = true) (h5 : N.length ≤ 5) {m : Nat} (h : m ≤ N.length) : (∀ i j, i < N.length → j < N.length → -1434890700000 ≤ X m i j ∧ X m i j ≤ 1434890700000) ∧ -322850407500000 ≤ cE m ∧ cE m ≤ 322850407500000 := by
  obtain ⟨a, b1, b2, b3⟩ := c.bd hm h5 m h
  have p := p270 (5 - m) m (by omega)
  generalize (270 : Int) ^ m = B at *
  exact ⟨fun i j hi hj => by have := a i j hi hj; omega, by omega, by omega⟩
theorem CH.pq (c : CH N X cE) (hm : isMat N = true) (h5 : N.length ≤ 5) : ∀ k, k ≤ N.length → (∀ i j, i < N.length → j < N.length → (pQ N k).1 (i * 8 + j) = X k i j) ∧ ∀ s, s ≤ k → (pQ N k).2 (N.length - s) = cE s
  | 0, _ => by
    refine ⟨fun i j hi hj => (c.x0 i j hi hj).symm, fun s hs => ?_⟩
    obtain rfl : s = 0 := by omega
    show (if N.length - 0 = N.length then (1 : Int) else 0) = cE 0
    rw [if_pos (by omega), c.c0]
  | k + 1, h => by
    obtain ⟨a, b⟩ := c.pq hm h5 k (by omega)
    have bk := b k (Nat.le_refl _)
    have lk := c.lim hm h5 (show k ≤ N.length by omega)
    have l1 := c.lim hm h5 h
    have n1 : ∀ i j, i < N.length → j < N.length → nxX N (pQ N k).1 ((pQ N k).2 (N.length - k)) (i * 8 + j) = X (k + 1) i j := fun i j hi hj => by
      have e : sP N (pQ N k).1 i j N.length = sm (fun h => ent N i h * X k h j) N.length := sm_congr fun h hh => by rw [a h j hh hj]
      have s := sm_bd (f := fun h => ent N i h * X k h j) (B := 9 * 1434890700000) (n := N.length) fun h hh => mulBd (ent_bd hm i h) (lk.1 h j hh hj)
      have r := c.nx k (by omega) i j hi hj
      have li := l1.1 i j hi hj
      rw [nxX_at hm _ _ hi hj, e, bk, r]
      rw [r] at li
      generalize sm (fun h => ent N i h * X k h j) N.length = S at *
      have w : w6 S = S := w6_id (by omega) (by omega)
      rw [w]
      by_cases q : i = j
      · rw [if_pos q, if_pos q]
        rw [if_pos q] at li
        exact w6_id (by omega) (by omega)
      · rw [if_neg q, if_neg q, Int.add_zero]
    refine ⟨n1, fun s hs => ?_⟩
    show (if N.length - s = N.length - (k + 1) then cf (k + 1) (tJ N (nxX N (pQ N k).1 ((pQ N k).2 (N.length - k))) N.length) else (pQ N k).2 (N.length - s)) = cE s
    by_cases e : s = k + 1
    · subst e
      rw [if_pos rfl]
      have t : tJ N (nxX N (pQ N k).1 ((pQ N k).2 (N.length - k))) N.length = sm (fun i => sm (fun h => ent N i h * X (k + 1) h i) N.length) N.length := sm_congr fun i hi => sm_congr fun h hh => by rw [n1 h i hh hi]
      have tr := c.tr k (by omega)
      rw [t]
      have hT : sm (fun i => sm (fun h => ent N i h * X (k + 1) h i) N.length) N.length = -(((k + 1 : Nat) : Int) * cE (k + 1)) := by omega
      rw [hT]
      have hk : 1 ≤ ((k + 1 : Nat) : Int) ∧ ((k + 1 : Nat) : Int) ≤ 5 := by omega
      have pb : -(5 * 322850407500000) ≤ ((k + 1 : Nat) : Int) * cE (k + 1) ∧ ((k + 1 : Nat) : Int) * cE (k + 1) ≤ 5 * 322850407500000 := by
        have := l1.2
        have hB : (0 : Int) ≤ 322850407500000 := by decide
        have a1 : ((k + 1 : Nat) : Int) * cE (k + 1) ≤ ((k + 1 : Nat) : Int) * 322850407500000 := Int.mul_le_mul_of_nonneg_left this.2 (by omega)
        have a2 : ((k + 1 : Nat) : Int) * (-322850407500000) ≤ ((k + 1 : Nat) : Int) * cE (k + 1) := Int.mul_le_mul_of_nonneg_left this.1 (by omega)
        omega
      have c1 := l1.2
      generalize hz : cE (k + 1) = z at *
      unfold cf
      have hk0 : ((k + 1 : Nat) : Int) ≠ 0 := by omega
      generalize ((k + 1 : Nat) : Int) = kk at *
      generalize hP : kk * z = P at *
      have w1 : w6 (-P) = -P := w6_id (by omega) (by omega)
      have w2 : w6 (0 - -P) = P := by rw [show 0 - -P = P by omega]; exact w6_id (by omega) (by omega)
      rw [w1, w2, ← hP, Int.mul_tdiv_cancel_left _ hk0]
      exact w6_id (by omega) (by omega)
    · rw [if_neg (by omega)]
      exact b s (by omega)
theorem pw_next (hm : isMat N = true) (t : Nat) {i j : Nat} (hi : i < N.length) (hj : j < N.length) : sm (fun h => ent N i h * pwX N t (h * 8 + j)) N.length = pwX N (t + 1) (i * 8 + j) := by
  have := pwX_add hm 1 hi t hj
  rw [Nat.add_comm] at this
  rw [this]
  exact sm_congr fun k hk => by rw [pwX_1 hm hi hk]
theorem pw_0 (hm : isMat N = true) {i j : Nat} (hi : i < N.length) (hj : j < N.length) : pwX N 0 (i * 8 + j) = if i = j then 1 else 0 := by
  have h8 := isMat_n hm
  show onF N.length (i * 8 + j) = _
  unfold onF
  by_cases e : i = j
  · rw [if_pos (by omega), if_pos e]
  · rw [if_neg (by omega), if_neg e]
theorem CH.step (c : CH N X cE) (hm : isMat N = true) {m : Nat} (e : ∀ i j, i < N.length → j < N.length → X m i j = sm (fun t => cE (m - 1 - t) * pwX N t (i * 8 + j)) m) {i j : Nat} (hi : i < N.length) (hj : j < N.length) :
    sm (fun h => ent N i h * X m h j) N.length + (if i = j then cE m else 0) = sm (fun t => cE (m - t) * pwX N t (i * 8 + j)) (m + 1) := by
  have e1 : sm (fun h => ent N i h * X m h j) N.length = sm (fun h => sm (fun t => ent N i h * (cE (m - 1 - t) * pwX N t (h * 8 + j))) m) N.length := sm_congr fun h hh => by rw [e h j hh hj, sm_mul]
  rw [e1, sm_swap, ← sm_shift (fun t => cE (m - t) * pwX N t (i * 8 + j)) m]
  congr 1
  · refine sm_congr fun t ht => ?_
    rw [← pw_next hm t hi hj, ← sm_mul]
    refine sm_congr fun h hh => ?_
    rw [Int.mul_left_comm, show m - 1 - t = m - (t + 1) by omega]
  · rw [pw_0 hm hi hj]
    by_cases q : i = j
    · rw [if_pos q, if_pos q, Int.mul_one, Nat.sub_zero]
    · rw [if_neg q, if_neg q, Int.mul_zero]
theorem CH.horner (c : CH N X cE) (hm : isMat N = true) : ∀ m, m ≤ N.length → ∀ i j, i < N.length → j < N.length → X m i j = sm (fun t => cE (m - 1 - t) * pwX N t (i * 8 + j)) m
  | 0, _, i, j, hi, hj => c.x0 i j hi hj
  | m + 1, h, i, j, hi, hj => by
    rw [c.nx m (by omega) i j hi hj, c.step hm (c.horner hm m (by omega)) hi hj]
    exact sm_congr fun t ht => by rw [show m + 1 - 1 - t = m - t by omega]
def pc (N : List (List Int)) (t : Nat) : Int := (pQ N N.length).2 t
theorem cayley (hm : isMat N = true) (h5 : N.length ≤ 5) : pc N N.length = 1 ∧ pc N (N.length - 1) = -sm (fun i => ent N i i) N.length ∧ ∀ i j, i < N.length → j < N.length → sm (fun t => pc N t * pwX N t (i * 8 + j)) (N.length + 1) = 0 := by
  have h8 := isMat_n hm
  obtain ⟨X, cE, c⟩ := ch_ex hm h5
  have p := (c.pq hm h5 N.length (Nat.le_refl _)).2
  refine ⟨?_, ?_, fun i j hi hj => ?_⟩
  · have := p 0 (by omega)
    rw [Nat.sub_zero] at this
    exact this.trans c.c0
  · rw [show pc N (N.length - 1) = cE 1 from p 1 h8.1]
    have t := c.tr 0 (by omega)
    have e : sm (fun i => sm (fun h => ent N i h * X (0 + 1) h i) N.length) N.length = sm (fun i => ent N i i) N.length := sm_congr fun i hi => by
      rw [sm_one hi (fun k hk ne => by
        rw [c.nx 0 (by omega) k i hk hi, if_neg ne, sm_congr (f := fun h => ent N k h * X 0 h i) (g := fun _ => 0) (fun h hh => by rw [c.x0 h i hh hi, Int.mul_zero]), sm_zero, Int.add_zero, Int.mul_zero])]
      rw [c.nx 0 (by omega) i i hi hi, if_pos rfl, sm_congr (f := fun h => ent N i h * X 0 h i) (g := fun _ => 0) (fun h hh => by rw [c.x0 h i hh hi, Int.mul_zero]), sm_zero, c.c0, Int.zero_add, Int.mul_one]
    rw [e] at t
    have : ((0 + 1 : Nat) : Int) * cE (0 + 1) = cE 1 := by simp
    rw [this] at t
    exact t
  · have f := c.fin i j hi hj
    rw [c.step hm (c.horner hm N.length (Nat.le_refl _)) hi hj] at f
    refine Eq.trans ?_ f
    refine sm_congr fun t ht => ?_
    have := p (N.length - t) (by omega)
    rw [show N.length - (N.length - t) = t by omega] at this
    rw [show pc N t = cE (N.length - t) from this]
end
end Go.Proofs.Ytjeemgaoonapgaa.Ev
