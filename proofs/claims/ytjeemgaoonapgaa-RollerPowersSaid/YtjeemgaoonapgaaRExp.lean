/-
  What Exponent and the reference's Exponent answer. No condition.
-/
import Derived.Test.YtjeemgaoonapgaaRGraph
set_option linter.unusedVariables false
set_option linter.unusedSimpArgs false
namespace Go.Proofs.Ytjeemgaoonapgaa.Ev
open Go Go.AEv

attribute [local simp] evFunc initS evOps_c evTrim_c evSkip_c evExit_c evRet_c evSeq_c evCond_c evBlock_c evDraw_c runOps_n runOps_c exec_n exec_g pure1_c act AOpd.ev T.get T.set T.put evBin evUn forceT_eq forceV_eq forceL_eq evRess evRes one keep runFP_n runFP_c app_none AV.flats AV.flat came_some List.getElem?_cons_zero List.getElem?_cons_succ beqT wrapI idxI tdivI tmodI decT decF ibT ibF inT inF evScope_c if_pos if_neg Cm_some thenW_n thenW_e thenW_r blkW_n blkW_e blkW_r goI kn putAt AV.cells fillA loadA takeA mk Eff.isAll Eff.isNone Eff.commutes Eff.spares okPair apart eqAgg fits LK.fits allEq aveq eqk mmA

/-! ### The plain values -/
theorem pr_congr {r q r' q' : Nat → Bool} {i j : Nat} (hi : i < 8) (hj : j < 8) (h1 : ∀ x, x < 64 → r x = r' x) (h2 : ∀ x, x < 64 → q x = q' x) : ∀ n, n ≤ 8 → pr r q i j n = pr r' q' i j n
  | 0, _ => rfl
  | n + 1, h => by
    show (pr r q i j n || (r (i * 8 + n) && q (n * 8 + j))) = (pr r' q' i j n || (r' (i * 8 + n) && q' (n * 8 + j)))
    rw [pr_congr hi hj h1 h2 n (by omega), h1 _ (by omega), h2 _ (by omega)]
abbrev K65 (J : CallF) : Prop := ∀ (r q : Nat → Bool) (h : Heap), J 65 [.agg (bls r 64), .agg (bls q 64)] h = some (.agg (bls (tmf r q) 64), [], false)
theorem ub_bls (r : Nat → Bool) {x : Nat} (hx : x < 64) : ub ((bls r 64).getD x .undef) = r x := by
  rw [List.getD_eq_getElem?_getD, bls_at _ hx]; rfl
theorem isB_bls (r : Nat → Bool) : (bls r 64).all isB = true := by
  rw [List.all_eq_true]
  intro x hx
  unfold bls at hx
  obtain ⟨y, _, rfl⟩ := List.mem_map.1 hx
  rfl
theorem k65 : K65 R1 := fun r q h => by
  have e : bls (tmf (fun x => ub ((bls r 64).getD x .undef)) (fun x => ub ((bls q 64).getD x .undef))) 64 = bls (tmf r q) 64 := bls_ext _ _ _ fun x hx => pr_congr (by omega) (by omega) (fun y hy => ub_bls r hy) (fun y hy => ub_bls q hy) 8 (Nat.le_refl _)
  simp only [R1, AEv.addV, if_true, spec65, bls_len, isB_bls, and_self, Option.bind_some, e, AV.flats, AV.flat, bls_flat, Bool.and_true]
theorem fits_b : ∀ (n : Nat) (l : List AV), l.length = n → l.all isB = true → fits (List.replicate n LK.b) l = true
  | 0, [], _, _ => rfl
  | n + 1, a :: l, h, hb => by
    simp only [List.all_cons, Bool.and_eq_true] at hb
    rw [List.replicate_succ]
    show (LK.fits .b a && fits (List.replicate n .b) l) = true
    rw [fits_b n l (by simpa using h) hb.2, Bool.and_true]
    cases a <;> first | rfl | (cases hb.1)
theorem allEq_b (f g : Nat → Bool) : ∀ l : List Nat, allEq (l.map fun x => AV.bool (f x)) (l.map fun x => AV.bool (g x)) = l.all fun x => f x == g x
  | [] => rfl
  | x :: l => by
    show (aveq (.bool (f x)) (.bool (g x)) == some true && allEq _ _) = (f x == g x && _)
    rw [allEq_b f g l]
    show ((some (f x == g x) == some true) && _) = _
    rw [beqT]
theorem eq_bls (f g : Nat → Bool) : eqAgg (List.replicate 64 LK.b) (.agg (bls f 64)) (.agg (bls g 64)) = some ((List.range 64).all fun x => f x == g x) := by
  simp only [eqAgg]
  rw [fits_b 64 _ (bls_len _ _) (isB_bls _), fits_b 64 _ (bls_len _ _) (isB_bls _)]
  simp only [Bool.and_self, if_true]
  unfold bls
  rw [allEq_b]
/-- n rows of n. -/
def alF (n i j x : Nat) : Bool := decide ((x / 8 < i ∧ x % 8 < n) ∨ (x / 8 = i ∧ x % 8 < j))
theorem alF_row {n i : Nat} (hn : n ≤ 8) : alF n i n = alF n (i + 1) 0 := by
  funext x; unfold alF; apply decide_eq_decide.2; omega
theorem alF_0 (n : Nat) : alF n 0 0 = fun _ => false := by
  funext x; unfold alF; exact decide_eq_false (by omega)
theorem alF_set {n i j : Nat} (hi : i < 8) (hj : j < 8) : (bls (alF n i j) 64).set (i * 8 + j) (.bool true) = bls (alF n i (j + 1)) 64 := by
  rw [bls_set _ _ _ _ (by omega)]
  apply bls_ext
  intro x hx
  unfold alF
  by_cases e : x = i * 8 + j
  · rw [if_pos e, decide_eq_true (by omega)]
  · rw [if_neg e]; apply decide_eq_decide.2; omega
section
variable {M : List (List Int)}
theorem eq_full (hm : isMat M = true) (k : Nat) : ((List.range 64).all fun x => pw M k x == alF M.length M.length 0 x) = fullB M (k + 1) := by
  have h8 := isMat_n hm
  apply Bool.eq_iff_iff.2
  rw [fullB_iff hm, List.all_eq_true]
  constructor
  · intro h i hi j hj
    have := h (i * 8 + j) (by simp; omega)
    rw [beq_iff_eq, show alF M.length M.length 0 (i * 8 + j) = true from decide_eq_true (by omega)] at this
    have := (pw_iff hm).1 this
    rwa [show (i * 8 + j) / 8 = i by omega, show (i * 8 + j) % 8 = j by omega] at this
  · intro h x hx
    rw [beq_iff_eq]
    apply Bool.eq_iff_iff.2
    rw [pw_iff hm]
    unfold alF
    rw [decide_eq_true_eq]
    constructor
    · intro w; have := w.lt hm; omega
    · intro c; exact h _ (by omega) _ (by omega)
/-- How many powers are looked at. -/
def exM (n : Nat) : Nat := (n - 1) * (n - 1) + 1
def exN (M : List (List Int)) : Nat := fva (fullB M) (exM M.length) 1
def exB (M : List (List Int)) : Bool := decide (exN M ≤ exM M.length)
theorem exM_bd {n : Nat} (h : 1 ≤ n ∧ n ≤ 8) : 1 ≤ exM n ∧ exM n ≤ 50 ∧ ((n : Int) - 1) * ((n : Int) - 1) = ((exM n - 1 : Nat) : Int) := by
  have : n = 1 ∨ n = 2 ∨ n = 3 ∨ n = 4 ∨ n = 5 ∨ n = 6 ∨ n = 7 ∨ n = 8 := by omega
  rcases this with rfl | rfl | rfl | rfl | rfl | rfl | rfl | rfl <;> decide

/-! ### Exponent -/
def HE (h : Heap) (M : List (List Int)) (f : Nat → Bool) : Heap := ⟨h.get, h.size, [.cells 0 65 (matC M), .cells 0 64 (bls f 64)]⟩
def HE2 (h : Heap) (M : List (List Int)) (f g : Nat → Bool) : Heap := ⟨h.get, h.size, [.cells 0 65 (matC M), .cells 0 64 (bls f 64), .cells 0 64 (bls g 64)]⟩
theorem c34_in (J : CallF) (h : Heap) {n i : Nat} (hi : i < n) (h8 : n ≤ 8) : Tr tbl J c34_l0 (fun s h' => h' = HE h M (alF n i 0) ∧ s.get [true, false] = .ptr h.size 0 65 ∧ s.get [true, true] = .ptr (h.size + 1) 0 64 ∧ s.get [false, false, false] = G i ∧ s.get [false, false, true, false] = G n ∧ s.get [true, false, true, false] = G i ∧ s.get [true, false, false, true] = G n ∧ s.get [false, true, false, true] = G ((0 : Nat) : Int)) (.exit 2) (fun s h' => h' = HE h M (alF n i n) ∧ s.get [true, false] = .ptr h.size 0 65 ∧ s.get [true, true] = .ptr (h.size + 1) 0 64 ∧ s.get [false, false, true, false] = G n ∧ s.get [true, false, true, false] = G i) := by
  refine Tr.rounds (P := fun j => (fun s h' => h' = HE h M (alF n i j) ∧ s.get [true, false] = .ptr h.size 0 65 ∧ s.get [true, true] = .ptr (h.size + 1) 0 64 ∧ s.get [false, false, false] = G i ∧ s.get [false, false, true, false] = G n ∧ s.get [true, false, true, false] = G i ∧ s.get [true, false, false, true] = G n ∧ s.get [false, true, false, true] = G j)) (M := n) (fun j hj => ?_) ?_ (by simp) 0 (by omega)
  · refine Tr.w fun s1 H1 hp R kR => W.trim ?_
    obtain ⟨rfl, q⟩ := hp
    have l2 := bls_len (alF n i j) 64
    have es := alF_set (n := n) (i := i) (j := j) (by omega) (by omega)
    simp only [HE] at kR ⊢
    generalize matC M = cm at *
    generalize bls (alF n i (j + 1)) 64 = c1 at *
    generalize bls (alF n i j) 64 = c0 at *
    refine W.seq (W.chunk ?_)
    simp (disch := first | omega | exact getEq rfl | exact getO0 | exact Nat.le_of_ble_eq_true rfl) [c34_o9, size_mk, get_mk_lt, get_mk_ge, frameOf, Eff.app, Heap.setOwn, q]
    refine W.seq (W.chunk ?_)
    simp (disch := first | omega | exact getEq rfl | exact getO0 | exact Nat.le_of_ble_eq_true rfl) [size_mk, get_mk_lt, get_mk_ge, frameOf, Eff.app, Heap.setOwn, q]
    refine W.seq (W.block ?_)
    refine W.seq (W.chunk ?_)
    simp (disch := first | omega | exact getEq rfl | exact getO0 | exact Nat.le_of_ble_eq_true rfl) [c34_o10, size_mk, get_mk_lt, get_mk_ge, frameOf, Eff.app, Heap.setOwn, q]
    refine W.chunk ?_
    simp (disch := first | omega | exact getEq rfl | exact getO0 | exact Nat.le_of_ble_eq_true rfl) [c34_o11, size_mk, get_mk_lt, get_mk_ge, frameOf, Eff.app, Heap.setOwn, q, l2, es]
    refine W.chunk ?_
    simp (disch := first | omega | exact getEq rfl | exact getO0 | exact Nat.le_of_ble_eq_true rfl) [c34_o12, size_mk, get_mk_lt, get_mk_ge, frameOf, Eff.app, Heap.setOwn, q]
    exact kR _ _ (by simp [T.get, q])
  · refine Tr.w fun s1 H1 hp R kR => W.trim ?_
    obtain ⟨rfl, q⟩ := hp
    refine W.seq (W.chunk ?_)
    simp (disch := first | omega | exact getEq rfl | exact getO0 | exact Nat.le_of_ble_eq_true rfl) [c34_o9, size_mk, get_mk_lt, get_mk_ge, frameOf, Eff.app, Heap.setOwn, q]
    refine W.seq (W.chunk ?_)
    simp (disch := first | omega | exact getEq rfl | exact getO0 | exact Nat.le_of_ble_eq_true rfl) [size_mk, get_mk_lt, get_mk_ge, frameOf, Eff.app, Heap.setOwn, q]
    exact kR _ _ (by simp [T.get, q])
theorem c34_out (J : CallF) (h : Heap) (hm : isMat M = true) : Tr tbl J c34_l1 (fun s h' => h' = HE h M (alF M.length 0 0) ∧ s.get [true, false] = .ptr h.size 0 65 ∧ s.get [true, true] = .ptr (h.size + 1) 0 64 ∧ s.get [false, false, true, false] = G M.length ∧ s.get [true, false, true, false] = G ((0 : Nat) : Int)) (.exit 0) (fun s h' => h' = HE h M (alF M.length M.length 0) ∧ s.get [true, false] = .ptr h.size 0 65 ∧ s.get [true, true] = .ptr (h.size + 1) 0 64) := by
  have h8 := isMat_n hm
  have e0 : (matC M)[0]? = some (G M.length) := rfl
  have e0' := getI e0
  have l1 := matC_len M
  refine Tr.rounds (P := fun i => (fun s h' => h' = HE h M (alF M.length i 0) ∧ s.get [true, false] = .ptr h.size 0 65 ∧ s.get [true, true] = .ptr (h.size + 1) 0 64 ∧ s.get [false, false, true, false] = G M.length ∧ s.get [true, false, true, false] = G i)) (M := M.length) (fun i hi => ?_) ?_ (by simp) 0 (by omega)
  · refine Tr.w fun s1 H1 hp R kR => W.trim ?_
    obtain ⟨rfl, q⟩ := hp
    have l0 := c34_in (M := M) J h hi h8.2
    rw [alF_row h8.2] at l0
    simp only [HE] at kR l0 ⊢
    generalize bls (alF M.length (i + 1) 0) 64 = c1 at *
    generalize bls (alF M.length i 0) 64 = c0 at *
    generalize matC M = cm at *
    generalize M.length = n at *
    refine W.seq (W.chunk ?_)
    simp (disch := first | omega | exact getEq rfl | exact getO0 | exact Nat.le_of_ble_eq_true rfl) [c34_o6, size_mk, get_mk_lt, get_mk_ge, frameOf, Eff.app, Heap.setOwn, q]
    refine W.seq (W.chunk ?_)
    simp (disch := first | omega | exact getEq rfl | exact getO0 | exact Nat.le_of_ble_eq_true rfl) [size_mk, get_mk_lt, get_mk_ge, frameOf, Eff.app, Heap.setOwn, q]
    refine W.seq (W.block ?_)
    refine W.seq (W.chunk ?_)
    simp (disch := first | omega | exact getEq rfl | exact getO0 | exact Nat.le_of_ble_eq_true rfl) [c34_o7, size_mk, get_mk_lt, get_mk_ge, frameOf, Eff.app, Heap.setOwn, q]
    refine W.seq (W.chunk ?_)
    simp (disch := first | omega | exact getEq rfl | exact getO0 | exact Nat.le_of_ble_eq_true rfl) [c34_o8, size_mk, get_mk_lt, get_mk_ge, frameOf, Eff.app, Heap.setOwn, q, e0, e0', l1]
    refine W.block ?_
    refine W.use (l0) (by simp (disch := first | omega | exact getEq rfl | exact getO0 | exact Nat.le_of_ble_eq_true rfl) [size_mk, get_mk_lt, get_mk_ge, frameOf, Eff.app, Heap.setOwn, q]) fun s1 H1 hp => ?_
    obtain ⟨rfl, q⟩ := hp
    try simp only [thenW_n, thenW_e, thenW_r, blkW_n, blkW_e, blkW_r, if_true]
    refine W.chunk ?_
    simp (disch := first | omega | exact getEq rfl | exact getO0 | exact Nat.le_of_ble_eq_true rfl) [c34_o13, size_mk, get_mk_lt, get_mk_ge, frameOf, Eff.app, Heap.setOwn, q]
    exact kR _ _ (by simp [T.get, q])
  · refine Tr.w fun s1 H1 hp R kR => W.trim ?_
    obtain ⟨rfl, q⟩ := hp
    refine W.seq (W.chunk ?_)
    simp (disch := first | omega | exact getEq rfl | exact getO0 | exact Nat.le_of_ble_eq_true rfl) [c34_o6, size_mk, get_mk_lt, get_mk_ge, frameOf, Eff.app, Heap.setOwn, q]
    refine W.seq (W.chunk ?_)
    simp (disch := first | omega | exact getEq rfl | exact getO0 | exact Nat.le_of_ble_eq_true rfl) [size_mk, get_mk_lt, get_mk_ge, frameOf, Eff.app, Heap.setOwn, q]
    exact kR _ _ (by simp [T.get, q])
theorem c34_k (J : CallF) (k64 : K64 J) (k65 : K65 J) (h : Heap) (hm : isMat M = true) : ∀ d k, k + d = exM M.length →
    (fva (fullB M) d (k + 1) ≤ exM M.length → Tr tbl J c34_l2 (fun s h' => h' = HE2 h M (alF M.length M.length 0) (pw M k) ∧ s.get [true, false] = .ptr h.size 0 65 ∧ s.get [true, true] = .ptr (h.size + 1) 0 64 ∧ s.get [false, true, false] = .ptr (h.size + 2) 0 64 ∧ s.get [false, false, true, true, false] = G (exM M.length) ∧ s.get [true, false, true, true, false] = G k) .ret (fun s h => s.get [true] = G (fva (fullB M) d (k + 1)) ∧ s.get [false, false] = G 0)) ∧
    (exM M.length < fva (fullB M) d (k + 1) → Tr tbl J c34_l2 (fun s h' => h' = HE2 h M (alF M.length M.length 0) (pw M k) ∧ s.get [true, false] = .ptr h.size 0 65 ∧ s.get [true, true] = .ptr (h.size + 1) 0 64 ∧ s.get [false, true, false] = .ptr (h.size + 2) 0 64 ∧ s.get [false, false, true, true, false] = G (exM M.length) ∧ s.get [true, false, true, true, false] = G k) (.exit 4) (fun _ _ => True)) := by
  have h8 := isMat_n hm
  obtain ⟨b1, b2, _⟩ := exM_bd h8
  intro d
  induction d with
  | zero =>
    intro k hk
    refine ⟨fun c => by simp [fva] at c; omega, fun _ => Tr.out ?_ (by simp)⟩
    generalize exM M.length = L at *
    refine Tr.w fun s1 H1 hp R kR => W.trim ?_
    obtain ⟨rfl, q⟩ := hp
    refine W.seq (W.chunk ?_)
    simp (disch := first | omega | exact getEq rfl | exact getO0 | exact Nat.le_of_ble_eq_true rfl) [c34_o16, size_mk, get_mk_lt, get_mk_ge, frameOf, Eff.app, Heap.setOwn, q]
    refine W.seq (W.chunk ?_)
    simp (disch := first | omega | exact getEq rfl | exact getO0 | exact Nat.le_of_ble_eq_true rfl) [size_mk, get_mk_lt, get_mk_ge, frameOf, Eff.app, Heap.setOwn, q]
    exact kR _ _ trivial
  | succ d ih =>
    intro k hk
    obtain ⟨ih1, ih2⟩ := ih (k + 1) (by omega)
    have e : fva (fullB M) (d + 1) (k + 1) = if fullB M (k + 1) then k + 1 else fva (fullB M) d (k + 1 + 1) := rfl
    have eqb := eq_bls (pw M k) (alF M.length M.length 0)
    rw [eq_full hm] at eqb
    have et1 : (bls (pw M k) 64).take 64 = bls (pw M k) 64 := List.take_of_length_le (by rw [bls_len]; omega)
    have et2 : (bls (alF M.length M.length 0) 64).take 64 = bls (alF M.length M.length 0) 64 := List.take_of_length_le (by rw [bls_len]; omega)
    have l1 := bls_len (pw M k) 64
    have l2 := bls_len (alF M.length M.length 0) 64
    by_cases c : fullB M (k + 1) = true
    · rw [e, if_pos c]
      rw [c] at eqb
      refine ⟨fun _ => Tr.out ?_ (by simp), fun hc => by omega⟩
      simp only [HE2]
      generalize bls (pw M k) 64 = c1 at *
      generalize bls (alF M.length M.length 0) 64 = c0 at *
      generalize matC M = cm at *
      generalize exM M.length = L at *
      refine Tr.w fun s1 H1 hp R kR => W.trim ?_
      obtain ⟨rfl, q⟩ := hp
      refine W.seq (W.chunk ?_)
      simp (disch := first | omega | exact getEq rfl | exact getO0 | exact Nat.le_of_ble_eq_true rfl) [-List.reduceReplicate, -eqAgg, -fits, -LK.fits, -allEq, c34_o16, size_mk, get_mk_lt, get_mk_ge, frameOf, Eff.app, Heap.setOwn, q]
      refine W.seq (W.chunk ?_)
      simp (disch := first | omega | exact getEq rfl | exact getO0 | exact Nat.le_of_ble_eq_true rfl) [-List.reduceReplicate, -eqAgg, -fits, -LK.fits, -allEq, size_mk, get_mk_lt, get_mk_ge, frameOf, Eff.app, Heap.setOwn, q]
      refine W.seq (W.block ?_)
      refine W.seq (W.chunk ?_)
      simp (disch := first | omega | exact getEq rfl | exact getO0 | exact Nat.le_of_ble_eq_true rfl) [-List.reduceReplicate, -eqAgg, -fits, -LK.fits, -allEq, c34_o17, size_mk, get_mk_lt, get_mk_ge, frameOf, Eff.app, Heap.setOwn, q]
      refine W.assoc ?_
      refine W.seq (W.chunk ?_)
      simp (disch := first | omega | exact getEq rfl | exact getO0 | exact Nat.le_of_ble_eq_true rfl) [-List.reduceReplicate, -eqAgg, -fits, -LK.fits, -allEq, c34_o18, size_mk, get_mk_lt, get_mk_ge, frameOf, Eff.app, Heap.setOwn, q, et1, et2, l1, l2, eqb]
      refine W.seq (W.chunk ?_)
      simp (disch := first | omega | exact getEq rfl | exact getO0 | exact Nat.le_of_ble_eq_true rfl) [-List.reduceReplicate, -eqAgg, -fits, -LK.fits, -allEq, c34_o19, size_mk, get_mk_lt, get_mk_ge, frameOf, Eff.app, Heap.setOwn, q]
      exact kR _ _ (by simp [T.get, q])
    · rw [e, if_neg c]
      have c' : fullB M (k + 1) = false := by simpa using c
      rw [c'] at eqb
      have et3 : (matC M).take 65 = matC M := List.take_of_length_le (by rw [matC_len]; omega)
      have l3 := matC_len M
      have k64' := fun h => k64 h M hm
      have k65' := k65 (pw M k) (stF M)
      have es : bls (tmf (pw M k) (stF M)) 64 = bls (pw M (k + 1)) 64 := rfl
      have l4 := bls_len (pw M (k + 1)) 64
      have ep : putAt (bls (pw M k) 64) 0 (bls (pw M (k + 1)) 64) = bls (pw M (k + 1)) 64 := putAt_all _ _ (by omega)
      rw [es] at k65'
      have step : Tr tbl J (.trim [[true, false], [true, true], [false, true, false], [false, false, true, true, false], [true, false, true, true, false]] c34_b2) (fun s h' => h' = HE2 h M (alF M.length M.length 0) (pw M k) ∧ s.get [true, false] = .ptr h.size 0 65 ∧ s.get [true, true] = .ptr (h.size + 1) 0 64 ∧ s.get [false, true, false] = .ptr (h.size + 2) 0 64 ∧ s.get [false, false, true, true, false] = G (exM M.length) ∧ s.get [true, false, true, true, false] = G k) .normal (fun s h' => h' = HE2 h M (alF M.length M.length 0) (pw M (k + 1)) ∧ s.get [true, false] = .ptr h.size 0 65 ∧ s.get [true, true] = .ptr (h.size + 1) 0 64 ∧ s.get [false, true, false] = .ptr (h.size + 2) 0 64 ∧ s.get [false, false, true, true, false] = G (exM M.length) ∧ s.get [true, false, true, true, false] = G ((k + 1 : Nat) : Int)) := by
        simp only [HE2]
        clear ih1 ih2 es
        generalize bls (pw M (k + 1)) 64 = c2 at *
        generalize bls (pw M k) 64 = c1 at *
        generalize bls (alF M.length M.length 0) 64 = c0 at *
        generalize bls (stF M) 64 = cs at *
        generalize matC M = cm at *
        generalize exM M.length = L at *
        refine Tr.w fun s1 H1 hp R kR => W.trim ?_
        obtain ⟨rfl, q⟩ := hp
        refine W.seq (W.chunk ?_)
        simp (disch := first | omega | exact getEq rfl | exact getO0 | exact Nat.le_of_ble_eq_true rfl) [-List.reduceReplicate, -eqAgg, -fits, -LK.fits, -allEq, c34_o16, size_mk, get_mk_lt, get_mk_ge, frameOf, Eff.app, Heap.setOwn, q]
        refine W.seq (W.chunk ?_)
        simp (disch := first | omega | exact getEq rfl | exact getO0 | exact Nat.le_of_ble_eq_true rfl) [-List.reduceReplicate, -eqAgg, -fits, -LK.fits, -allEq, size_mk, get_mk_lt, get_mk_ge, frameOf, Eff.app, Heap.setOwn, q]
        refine W.seq (W.block ?_)
        refine W.seq (W.chunk ?_)
        simp (disch := first | omega | exact getEq rfl | exact getO0 | exact Nat.le_of_ble_eq_true rfl) [-List.reduceReplicate, -eqAgg, -fits, -LK.fits, -allEq, c34_o17, size_mk, get_mk_lt, get_mk_ge, frameOf, Eff.app, Heap.setOwn, q]
        refine W.assoc ?_
        refine W.seq (W.chunk ?_)
        simp (disch := first | omega | exact getEq rfl | exact getO0 | exact Nat.le_of_ble_eq_true rfl) [-List.reduceReplicate, -eqAgg, -fits, -LK.fits, -allEq, c34_o18, size_mk, get_mk_lt, get_mk_ge, frameOf, Eff.app, Heap.setOwn, q, et1, et2, l1, l2, eqb]
        refine W.seq (W.chunk ?_)
        simp (disch := first | omega | exact getEq rfl | exact getO0 | exact Nat.le_of_ble_eq_true rfl) [-List.reduceReplicate, -eqAgg, -fits, -LK.fits, -allEq, c34_o19, size_mk, get_mk_lt, get_mk_ge, frameOf, Eff.app, Heap.setOwn, q]
        refine W.chunk ?_
        simp (disch := first | omega | exact getEq rfl | exact getO0 | exact Nat.le_of_ble_eq_true rfl) [-List.reduceReplicate, -eqAgg, -fits, -LK.fits, -allEq, c34_o20, size_mk, get_mk_lt, get_mk_ge, frameOf, Eff.app, Heap.setOwn, q, et1, et3, l1, l3, l4, k64', k65', ep, -evDraw_c, evDraw_0]
        refine W.chunk ?_
        simp (disch := first | omega | exact getEq rfl | exact getO0 | exact Nat.le_of_ble_eq_true rfl) [-List.reduceReplicate, -eqAgg, -fits, -LK.fits, -allEq, c34_o21, size_mk, get_mk_lt, get_mk_ge, frameOf, Eff.app, Heap.setOwn, q]
        exact kR _ _ (by simp [T.get, q])
      exact ⟨fun q => Tr.next step (ih1 q), fun q => Tr.next step (ih2 q)⟩
theorem c34_ok (J : CallF) (k54 : K54 J) (k64 : K64 J) (k65 : K65 J) (hJ : ∀ a h, J 34 a h = none) (h : Heap) {y : AV} (hy : MR h y M) : CallsTo tbl J 34 [y] h (if isMat M then (if exB M then .tup [G (exN M), G 0] else .tup [G 0, G 6]) else .tup [G 0, G 2], [], false) := by
  refine Tr.fnv (cf := c34) (e := .ret) (s := T.set .leaf [] y) (by decide) rfl (hJ _ _) rfl rfl (by split; split; all_goals rfl) (by simp) ?_
  obtain ⟨cs, k54, hl, hc⟩ := k54 ⟨h.get, h.size, []⟩ y M (hy.lo [])
  have rp : (List.replicate 65 (AV.int .i64 0)).length = 65 := List.length_replicate
  have ep : putAt (List.replicate 65 (AV.int .i64 0)) 0 cs = cs := putAt_all _ _ (by omega)
  refine Tr.w fun s1 H1 hp R kR => ?_
  obtain ⟨rfl, rfl⟩ := hp
  have q : True := trivial
  have fin : ∀ a b : Int, (if isMat M then (if exB M then AV.tup [G (exN M), G 0] else .tup [G 0, G 6]) else .tup [G 0, G 2]) = .tup [G a, G b] → ∀ s h', s.get [true] = G a → s.get [false, false] = G b → R .ret s h' := fun a b e s h' x y => kR _ _ ⟨[G a, G b], by simp [c34, evRess, evRes, x, y], e.symm⟩
  clear kR
  generalize hZ : List.replicate 65 (AV.int .i64 0) = Z at *
  by_cases hm : isMat M = true
  · have h8 := isMat_n hm
    obtain rfl := hc hm
    have lo := c34_out (M := M) J h hm
    have e0 : (matC M)[0]? = some (G M.length) := rfl
    have e0' := getI e0
    have et : (matC M).take 65 = matC M := List.take_of_length_le (by omega)
    have k64' := fun h => k64 h M hm
    have rb := bls_rep 64
    have lz := bls_len (fun _ => false) 64
    have ls := bls_len (stF M) 64
    have ep2 : putAt (bls (fun _ => false) 64) 0 (bls (stF M) 64) = bls (stF M) 64 := putAt_all _ _ (by omega)
    obtain ⟨b1, b2, b3⟩ := exM_bd h8
    obtain ⟨l1, l2⟩ := c34_k (M := M) J k64 k65 h hm (exM M.length) 0 (by omega)
    have en : fva (fullB M) (exM M.length) (0 + 1) = exN M := rfl
    rw [en] at l1 l2
    have be : ((exM M.length - 1 : Nat) : Int) + 1 = (exM M.length : Int) := by omega
    have bl : -9223372036854775808 ≤ ((exM M.length - 1 : Nat) : Int) ∧ ((exM M.length - 1 : Nat) : Int) < 9223372036854775808 := by omega
    rw [hm] at k54
    by_cases c : exN M ≤ exM M.length
    · have l1 := l1 c
      have cb : exB M = true := decide_eq_true c
      refine W.seq (W.chunk ?_)
      simp (disch := first | omega | exact getEq rfl | exact getO0 | exact Nat.le_of_ble_eq_true rfl) [-List.reduceReplicate, c34_o0, size_mk, get_mk_lt, get_mk_ge, frameOf, Eff.app, Heap.setOwn, q]
      refine W.seq (W.chunk ?_)
      simp (disch := first | omega | exact getEq rfl | exact getO0 | exact Nat.le_of_ble_eq_true rfl) [-List.reduceReplicate, c34_o1, size_mk, get_mk_lt, get_mk_ge, frameOf, Eff.app, Heap.setOwn, q, k54, hZ, ep, rp, hl, frameOf]
      refine W.assoc ?_
      refine W.seq (W.chunk ?_)
      simp (disch := first | omega | exact getEq rfl | exact getO0 | exact Nat.le_of_ble_eq_true rfl) [-List.reduceReplicate, c34_o2, size_mk, get_mk_lt, get_mk_ge, frameOf, Eff.app, Heap.setOwn, q]
      refine W.seq (W.chunk ?_)
      simp (disch := first | omega | exact getEq rfl | exact getO0 | exact Nat.le_of_ble_eq_true rfl) [-List.reduceReplicate, c34_o3, size_mk, get_mk_lt, get_mk_ge, frameOf, Eff.app, Heap.setOwn, q]
      refine W.seq (W.chunk ?_)
      simp (disch := first | omega | exact getEq rfl | exact getO0 | exact Nat.le_of_ble_eq_true rfl) [-List.reduceReplicate, c34_o4, size_mk, get_mk_lt, get_mk_ge, frameOf, Eff.app, Heap.setOwn, q, rb]
      refine W.assoc ?_
      refine W.seq (W.chunk ?_)
      simp (disch := first | omega | exact getEq rfl | exact getO0 | exact Nat.le_of_ble_eq_true rfl) [-List.reduceReplicate, c34_o5, size_mk, get_mk_lt, get_mk_ge, frameOf, Eff.app, Heap.setOwn, q, e0, e0', hl]
      refine W.seq (W.block ?_)
      refine W.use (lo) (by simp (disch := first | omega | exact getEq rfl | exact getO0 | exact Nat.le_of_ble_eq_true rfl) [-List.reduceReplicate, size_mk, get_mk_lt, get_mk_ge, frameOf, Eff.app, Heap.setOwn, q, HE, alF_0, lz]) fun s1 H1 hp => ?_
      obtain ⟨rfl, q⟩ := hp
      try simp only [thenW_n, thenW_e, thenW_r, blkW_n, blkW_e, blkW_r, if_true]
      simp only [HE]
      refine W.seq (W.chunk ?_)
      simp (disch := first | omega | exact getEq rfl | exact getO0 | exact Nat.le_of_ble_eq_true rfl) [-List.reduceReplicate, c34_o14, size_mk, get_mk_lt, get_mk_ge, frameOf, Eff.app, Heap.setOwn, q, rb, k64', et, hl, lz, ls, ep2]
      refine W.assoc ?_
      refine W.seq (W.chunk ?_)
      simp (disch := first | omega | exact getEq rfl | exact getO0 | exact Nat.le_of_ble_eq_true rfl) [-List.reduceReplicate, c34_o15, size_mk, get_mk_lt, get_mk_ge, frameOf, Eff.app, Heap.setOwn, q, e0, e0', hl, b3, be]
      refine W.seq (W.block ?_)
      refine W.use (l1) (by simp (disch := first | omega | exact getEq rfl | exact getO0 | exact Nat.le_of_ble_eq_true rfl) [-List.reduceReplicate, size_mk, get_mk_lt, get_mk_ge, frameOf, Eff.app, Heap.setOwn, q, HE2, pw, lz]) fun s1 H1 hp => ?_
      obtain ⟨q1, q2⟩ := hp
      try simp only [thenW_n, thenW_e, thenW_r, blkW_n, blkW_e, blkW_r, if_true]
      exact fin _ _ (by rw [if_pos hm, if_pos cb]) _ _ q1 q2
    · have l2 := l2 (by omega)
      have cb : exB M = false := decide_eq_false c
      refine W.seq (W.chunk ?_)
      simp (disch := first | omega | exact getEq rfl | exact getO0 | exact Nat.le_of_ble_eq_true rfl) [-List.reduceReplicate, c34_o0, size_mk, get_mk_lt, get_mk_ge, frameOf, Eff.app, Heap.setOwn, q]
      refine W.seq (W.chunk ?_)
      simp (disch := first | omega | exact getEq rfl | exact getO0 | exact Nat.le_of_ble_eq_true rfl) [-List.reduceReplicate, c34_o1, size_mk, get_mk_lt, get_mk_ge, frameOf, Eff.app, Heap.setOwn, q, k54, hZ, ep, rp, hl, frameOf]
      refine W.assoc ?_
      refine W.seq (W.chunk ?_)
      simp (disch := first | omega | exact getEq rfl | exact getO0 | exact Nat.le_of_ble_eq_true rfl) [-List.reduceReplicate, c34_o2, size_mk, get_mk_lt, get_mk_ge, frameOf, Eff.app, Heap.setOwn, q]
      refine W.seq (W.chunk ?_)
      simp (disch := first | omega | exact getEq rfl | exact getO0 | exact Nat.le_of_ble_eq_true rfl) [-List.reduceReplicate, c34_o3, size_mk, get_mk_lt, get_mk_ge, frameOf, Eff.app, Heap.setOwn, q]
      refine W.seq (W.chunk ?_)
      simp (disch := first | omega | exact getEq rfl | exact getO0 | exact Nat.le_of_ble_eq_true rfl) [-List.reduceReplicate, c34_o4, size_mk, get_mk_lt, get_mk_ge, frameOf, Eff.app, Heap.setOwn, q, rb]
      refine W.assoc ?_
      refine W.seq (W.chunk ?_)
      simp (disch := first | omega | exact getEq rfl | exact getO0 | exact Nat.le_of_ble_eq_true rfl) [-List.reduceReplicate, c34_o5, size_mk, get_mk_lt, get_mk_ge, frameOf, Eff.app, Heap.setOwn, q, e0, e0', hl]
      refine W.seq (W.block ?_)
      refine W.use (lo) (by simp (disch := first | omega | exact getEq rfl | exact getO0 | exact Nat.le_of_ble_eq_true rfl) [-List.reduceReplicate, size_mk, get_mk_lt, get_mk_ge, frameOf, Eff.app, Heap.setOwn, q, HE, alF_0, lz]) fun s1 H1 hp => ?_
      obtain ⟨rfl, q⟩ := hp
      try simp only [thenW_n, thenW_e, thenW_r, blkW_n, blkW_e, blkW_r, if_true]
      simp only [HE]
      refine W.seq (W.chunk ?_)
      simp (disch := first | omega | exact getEq rfl | exact getO0 | exact Nat.le_of_ble_eq_true rfl) [-List.reduceReplicate, c34_o14, size_mk, get_mk_lt, get_mk_ge, frameOf, Eff.app, Heap.setOwn, q, rb, k64', et, hl, lz, ls, ep2]
      refine W.assoc ?_
      refine W.seq (W.chunk ?_)
      simp (disch := first | omega | exact getEq rfl | exact getO0 | exact Nat.le_of_ble_eq_true rfl) [-List.reduceReplicate, c34_o15, size_mk, get_mk_lt, get_mk_ge, frameOf, Eff.app, Heap.setOwn, q, e0, e0', hl, b3, be]
      refine W.seq (W.block ?_)
      refine W.use (l2) (by simp (disch := first | omega | exact getEq rfl | exact getO0 | exact Nat.le_of_ble_eq_true rfl) [-List.reduceReplicate, size_mk, get_mk_lt, get_mk_ge, frameOf, Eff.app, Heap.setOwn, q, HE2, pw, lz]) fun s1 H1 hp => ?_
      try simp only [thenW_n, thenW_e, thenW_r, blkW_n, blkW_e, blkW_r, if_true]
      refine W.seq (W.chunk ?_)
      simp (disch := first | omega | exact getEq rfl | exact getO0 | exact Nat.le_of_ble_eq_true rfl) [-List.reduceReplicate, c34_o22, size_mk, get_mk_lt, get_mk_ge, frameOf, Eff.app, Heap.setOwn, q]
      refine W.ret ?_
      try simp only [thenW_n, thenW_e, thenW_r, blkW_n, blkW_e, blkW_r, if_true]
      exact fin 0 6 (by rw [if_pos hm, cb]; rfl) _ _ (by simp [T.get]) (by simp [T.get])
  · have hm' : isMat M = false := by simpa using hm
    rw [hm'] at k54
    refine W.seq (W.chunk ?_)
    simp (disch := first | omega | exact getEq rfl | exact getO0 | exact Nat.le_of_ble_eq_true rfl) [-List.reduceReplicate, c34_o0, size_mk, get_mk_lt, get_mk_ge, frameOf, Eff.app, Heap.setOwn, q]
    refine W.seq (W.chunk ?_)
    simp (disch := first | omega | exact getEq rfl | exact getO0 | exact Nat.le_of_ble_eq_true rfl) [-List.reduceReplicate, c34_o1, size_mk, get_mk_lt, get_mk_ge, frameOf, Eff.app, Heap.setOwn, q, k54, hZ, ep, rp, hl, frameOf]
    refine W.assoc ?_
    refine W.seq (W.chunk ?_)
    simp (disch := first | omega | exact getEq rfl | exact getO0 | exact Nat.le_of_ble_eq_true rfl) [-List.reduceReplicate, c34_o2, size_mk, get_mk_lt, get_mk_ge, frameOf, Eff.app, Heap.setOwn, q]
    refine W.seq (W.chunk ?_)
    simp (disch := first | omega | exact getEq rfl | exact getO0 | exact Nat.le_of_ble_eq_true rfl) [-List.reduceReplicate, c34_o3, size_mk, get_mk_lt, get_mk_ge, frameOf, Eff.app, Heap.setOwn, q]
    exact fin 0 2 (by rw [hm']; rfl) _ _ (by simp [T.get]) (by simp [T.get])
end

end Go.Proofs.Ytjeemgaoonapgaa.Ev
