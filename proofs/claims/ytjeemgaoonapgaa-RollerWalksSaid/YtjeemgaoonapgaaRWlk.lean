/-
  What walk answers. No condition.
-/
import Derived.Test.YtjeemgaoonapgaaRCls
set_option linter.unusedVariables false
set_option linter.unusedSimpArgs false
namespace Go.Proofs.Ytjeemgaoonapgaa.Ev
open Go Go.AEv

attribute [local simp] evFunc initS evOps_c evTrim_c evSkip_c evExit_c evRet_c evSeq_c evCond_c evBlock_c evDraw_c runOps_n runOps_c exec_n exec_g pure1_c act AOpd.ev T.get T.set T.put evBin evUn forceT_eq forceV_eq forceL_eq evRess evRes one keep runFP_n runFP_c app_none AV.flats AV.flat

/-! ### The plain values -/
/-- Does one of the first numbers come after u, and have c? -/
def pv (M : List (List Int)) (c : Nat → Bool) (u : Nat) : Nat → Bool
  | 0 => false
  | v + 1 => pv M c u v || (decide (0 < ent M u v) && c v)
/-- Is there a walk of so many steps from u to j? -/
def cw (M : List (List Int)) (j : Nat) : Nat → Nat → Bool
  | 0, u => decide (u = j)
  | s + 1, u => pv M (cw M j s) u M.length
/-- The first number with g, from v on. -/
def fva (g : Nat → Bool) : Nat → Nat → Nat
  | 0, v => v
  | m + 1, v => if g v then v else fva g m (v + 1)
def nxW (M : List (List Int)) (j t u : Nat) : Nat := fva (fun v => decide (0 < ent M u v) && cw M j t v) M.length 0
def wlk (M : List (List Int)) (j : Nat) : Nat → Nat → List Int
  | 0, _ => []
  | t + 1, u => (nxW M j t u : Int) :: wlk M j t (nxW M j t u)
theorem fva_ok (g : Nat → Bool) : ∀ m v w, v ≤ w → w < v + m → g w = true → v ≤ fva g m v ∧ fva g m v ≤ w ∧ g (fva g m v) = true ∧ ∀ z, v ≤ z → z < fva g m v → g z = false
  | 0, v, w, h1, h2, _ => by omega
  | m + 1, v, w, h1, h2, hg => by
    show v ≤ (if g v then v else fva g m (v + 1)) ∧ (if g v then v else fva g m (v + 1)) ≤ w ∧ g (if g v then v else fva g m (v + 1)) = true ∧ ∀ z, v ≤ z → z < (if g v then v else fva g m (v + 1)) → g z = false
    by_cases c : g v = true
    · rw [if_pos c]; exact ⟨Nat.le_refl _, h1, c, fun z a b => by omega⟩
    · rw [if_neg c]
      have hvw : v ≠ w := fun e => c (e ▸ hg)
      obtain ⟨a1, a2, a3, a4⟩ := fva_ok g m (v + 1) w (by omega) (by omega) hg
      refine ⟨by omega, a2, a3, fun z b1 b2 => ?_⟩
      by_cases e : z = v
      · subst e; simpa using c
      · exact a4 z (by omega) b2
section
variable {M : List (List Int)}
theorem pv_ex {c : Nat → Bool} {u : Nat} : ∀ {n}, pv M c u n = true ↔ ∃ v, v < n ∧ 0 < ent M u v ∧ c v = true
  | 0 => by simp [pv]
  | n + 1 => by
    show (pv M c u n || (decide (0 < ent M u n) && c n)) = true ↔ _
    rw [Bool.or_eq_true, pv_ex (n := n), Bool.and_eq_true, decide_eq_true_eq]
    constructor
    · rintro (⟨v, a, b⟩ | b)
      · exact ⟨v, by omega, b⟩
      · exact ⟨n, by omega, b⟩
    · rintro ⟨v, a, b⟩
      by_cases e : v = n
      · subst e; exact .inr b
      · exact .inl ⟨v, by omega, b⟩
theorem pv_out (hm : isMat M = true) {c : Nat → Bool} {u n : Nat} (hu : M.length ≤ u) : pv M c u n = false := by
  cases e : pv M c u n
  · rfl
  · obtain ⟨v, _, a, _⟩ := pv_ex.1 e
    rw [ent_out hm (.inl hu)] at a; omega
theorem nxW_ok {j t u : Nat} (h : cw M j (t + 1) u = true) : nxW M j t u < M.length ∧ 0 < ent M u (nxW M j t u) ∧ cw M j t (nxW M j t u) = true ∧ ∀ z, z < nxW M j t u → ¬ (0 < ent M u z ∧ cw M j t z = true) := by
  obtain ⟨w, a, b, c⟩ := pv_ex.1 (show pv M (cw M j t) u M.length = true from h)
  obtain ⟨q1, q2, q3, q4⟩ := fva_ok (fun v => decide (0 < ent M u v) && cw M j t v) M.length 0 w (by omega) (by omega) (by simp [b, c])
  have q3' : (decide (0 < ent M u (nxW M j t u)) && cw M j t (nxW M j t u)) = true := q3
  rw [Bool.and_eq_true, decide_eq_true_eq] at q3'
  refine ⟨Nat.lt_of_le_of_lt q2 a, q3'.1, q3'.2, fun z hz => ?_⟩
  have := q4 z (by omega) hz
  simp only [Bool.and_eq_false_iff, decide_eq_false_iff_not] at this
  rcases this with h | h
  · exact fun q => h q.1
  · exact fun q => by rw [h] at q; exact absurd q.2 (by simp)
/-- The cells, s, u and v having been reached. -/
def cF (M : List (List Int)) (j s u v x : Nat) : Bool := if x / 8 < s then cw M j (x / 8) (x % 8) else if x / 8 = s then (if x % 8 < u then cw M j s (x % 8) else if x % 8 = u then pv M (cw M j (s - 1)) u v else false) else false
theorem cF_u (j s u : Nat) : cF M j (s + 1) u M.length = cF M j (s + 1) (u + 1) 0 := by
  funext x
  unfold cF
  by_cases h1 : x / 8 < s + 1
  · rw [if_pos h1, if_pos h1]
  · rw [if_neg h1, if_neg h1]
    by_cases h2 : x / 8 = s + 1
    · rw [if_pos h2, if_pos h2]
      by_cases h3 : x % 8 < u
      · rw [if_pos h3, if_pos (by omega)]
      · rw [if_neg h3]
        by_cases h4 : x % 8 = u
        · rw [if_pos h4, if_pos (by omega), h4]; rfl
        · rw [if_neg h4, if_neg (by omega)]
          split <;> rfl
    · rw [if_neg h2, if_neg h2]
theorem cF_s (hm : isMat M = true) (j s : Nat) : cF M j (s + 1) M.length 0 = cF M j (s + 1 + 1) 0 0 := by
  funext x
  unfold cF
  by_cases h1 : x / 8 < s + 1
  · rw [if_pos h1, if_pos (show x / 8 < s + 1 + 1 by omega)]
  · rw [if_neg h1]
    by_cases h2 : x / 8 = s + 1
    · rw [if_pos h2, if_pos (show x / 8 < s + 1 + 1 by omega), h2]
      by_cases h3 : x % 8 < M.length
      · rw [if_pos h3]
      · rw [if_neg h3, show cw M j (s + 1) (x % 8) = false from pv_out hm (by omega)]
        split <;> rfl
    · rw [if_neg h2, if_neg (by omega)]
      split
      · rw [if_neg (by omega)]; split <;> rfl
      · rfl
theorem cF_1 (j : Nat) : cF M j 1 0 0 = fun x => decide (x = j ∧ x < 8) := by
  funext x
  unfold cF
  by_cases h1 : x / 8 < 1
  · rw [if_pos h1, show x / 8 = 0 by omega]
    show decide (x % 8 = j) = _
    apply decide_eq_decide.2; omega
  · rw [if_neg h1, decide_eq_false (by omega)]
    split
    · rw [if_neg (by omega)]; split <;> rfl
    · rfl
theorem cF_set {j s u v N : Nat} (hu : u < 8) (hN : (s + 1) * 8 + u < N) : (bls (cF M j (s + 1) u v) N).set ((s + 1) * 8 + u) (.bool (pv M (cw M j s) u v || (decide (0 < ent M u v) && cw M j s v))) = bls (cF M j (s + 1) u (v + 1)) N := by
  rw [bls_set _ _ _ _ hN]
  apply bls_ext
  intro x hx
  unfold cF
  by_cases e : x = (s + 1) * 8 + u
  · rw [if_pos e, if_neg (by omega), if_pos (by omega), if_neg (by omega), if_pos (by omega)]; rfl
  · rw [if_neg e]
    by_cases h1 : x / 8 < s + 1
    · rw [if_pos h1, if_pos h1]
    · rw [if_neg h1, if_neg h1]
      by_cases h2 : x / 8 = s + 1
      · rw [if_pos h2, if_pos h2]
        by_cases h3 : x % 8 < u
        · rw [if_pos h3, if_pos h3]
        · rw [if_neg h3, if_neg h3, if_neg (by omega), if_neg (by omega)]
      · rw [if_neg h2, if_neg h2]
theorem cF_at {j s u v : Nat} (hu : u < 8) : cF M j (s + 1) u v ((s + 1) * 8 + u) = pv M (cw M j s) u v := by
  unfold cF
  rw [if_neg (by omega), if_pos (by omega), if_neg (by omega), if_pos (by omega)]; rfl
theorem cF_lt {j s u v t z : Nat} (hz : z < 8) (ht : t < s) : cF M j s u v (t * 8 + z) = cw M j t z := by
  unfold cF
  rw [if_pos (by omega), show (t * 8 + z) / 8 = t by omega, show (t * 8 + z) % 8 = z by omega]
theorem bls_getN (f : Nat → Bool) {i N : Nat} (hi : i < N) {x : Bool} (e : f i = x) : (bls f N)[i]? = some (.bool x) := by rw [bls_at f hi, e]
theorem repl_bls : ∀ n, repl n [AV.bool false, .bool false, .bool false, .bool false, .bool false, .bool false, .bool false, .bool false] = bls (fun _ => false) (n * 8) := fun n => by
  rw [← bls_rep]
  show (List.replicate n _).flatten = _
  induction n with
  | zero => rfl
  | succ n ih =>
    rw [List.replicate_succ, List.flatten_cons, ih, show (n + 1) * 8 = n * 8 + 1 + 1 + 1 + 1 + 1 + 1 + 1 + 1 by omega]
    simp [List.replicate_succ]

/-! ### The walk -/
def HW (h : Heap) (M : List (List Int)) (N : Nat) (f : Nat → Bool) : Heap := ⟨h.get, h.size, [.cells 0 65 (matC M), .cells 8 N (bls f N)]⟩
theorem n66_11 (J : CallF) (H h : Heap) {n i k m u v : Nat} (hk : k ≤ 100) (hs : m < k) (hu : u < n) (hv : v < n) (h8 : n ≤ 8) {cm c0 : List AV} {a : Int} {b0 b2 : Bool} (hh : H = ⟨h.get, h.size, [.cells 0 65 cm, .cells 8 ((k + 1) * 8) c0]⟩) (l1 : cm.length = 65) (l0 : c0.length = (k + 1) * 8) (ea : cm[1 + u * 8 + v]? = some (G a)) (e0 : c0[(m + 1) * 8 + u]? = some (.bool b0)) (e2 : c0[m * 8 + v]? = some (.bool b2)) :
    Tr tbl J c66_o11 (fun s h' => h' = H ∧ s.get [false] = G i ∧ s.get [false, false] = G k ∧ s.get [true, false] = .ptr h.size 0 65 ∧ s.get [false, true, false] = .slice (h.size + 1) 0 (k + 1) ((k + 1) * 8) ∧ s.get [true, true, false] = G ((m + 1 : Nat) : Int) ∧ s.get [false, false, true] = G u ∧ s.get [true, false, true] = G v ∧ s.get [false, true, true, true] = G n ∧ s.get [true, true, true, true] = G u ∧ s.get [true, true, false, false, false] = G n ∧ s.get [false, false, true, false, false] = G v) .normal (fun s h' => h' = ⟨h.get, h.size, [.cells 0 65 cm, .cells 8 ((k + 1) * 8) (c0.set ((m + 1) * 8 + u) (.bool (b0 || (decide (0 < a) && b2))))]⟩ ∧ s.get [false] = G i ∧ s.get [false, false] = G k ∧ s.get [true, false] = .ptr h.size 0 65 ∧ s.get [false, true, false] = .slice (h.size + 1) 0 (k + 1) ((k + 1) * 8) ∧ s.get [true, true, false] = G ((m + 1 : Nat) : Int) ∧ s.get [false, false, true] = G u ∧ s.get [false, true, true, true] = G n ∧ s.get [true, true, true, true] = G u ∧ s.get [true, true, false, false, false] = G n ∧ s.get [false, false, true, false, false] = G v) := by
  subst hh
  have ea' := getI ea
  have e0' := getI e0
  have e2' := getI e2
  have ts : ((m : Int) + 1).toNat = m + 1 := by omega
  have tl : m < k + 1 := by omega
  have tl2 : m + 1 < k + 1 := by omega
  refine Tr.w fun s1 H1 hp R kR => ?_
  obtain ⟨rfl, q⟩ := hp
  by_cases ca : 0 < a <;> cases b0 <;> cases b2
  all_goals
    simp only [ca, decide_true, decide_false, Bool.false_or, Bool.true_or, Bool.true_and, Bool.false_and, Bool.and_false, Bool.and_true] at kR
    refine W.chunk ?_
    simp (disch := first | omega | exact getEq rfl | exact getO0 | exact Nat.le_of_ble_eq_true rfl) [-evDraw_c, c66_o11, came_some, goI, List.getElem?_cons_zero, List.getElem?_cons_succ, kn, keep, frameOf, size_mk, get_mk_lt, get_mk_ge, Eff.app, Heap.setOwn, putAt, AV.cells, fillA, loadA, takeA, mk, Eff.isAll, Eff.isNone, Eff.commutes, Eff.spares, okPair, apart, eqAgg, fits, LK.fits, allEq, aveq, eqk, mmA, beqT, wrapI, idxI, tdivI, tmodI, decT, decF, ibT, ibF, inT, inF, evScope_c, if_pos, if_neg, Cm_some, put_plus1, thenW_n, thenW_e, thenW_r, blkW_n, blkW_e, blkW_r, if_true, q, evDraw_0, l0, l1, ts, ea, ea', e0, e0', e2, e2']
    exact kR _ _ (by simp [T.get, q])
theorem c66_v (J : CallF) (h : Heap) (hm : isMat M = true) {i j k m u : Nat} (hk : k ≤ 100) (hs : m < k) (hu : u < M.length) : Tr tbl J c66_l0 (fun s h' => h' = HW h M ((k + 1) * 8) (cF M j (m + 1) u 0) ∧ s.get [false] = G i ∧ s.get [false, false] = G k ∧ s.get [true, false] = .ptr h.size 0 65 ∧ s.get [false, true, false] = .slice (h.size + 1) 0 (k + 1) ((k + 1) * 8) ∧ s.get [true, true, false] = G ((m + 1 : Nat) : Int) ∧ s.get [false, false, true] = G u ∧ s.get [false, true, true, true] = G M.length ∧ s.get [true, true, true, true] = G u ∧ s.get [true, true, false, false, false] = G M.length ∧ s.get [false, false, true, false, false] = G ((0 : Nat) : Int)) (.exit 4)
    (fun s h' => h' = HW h M ((k + 1) * 8) (cF M j (m + 1) u M.length) ∧ s.get [false] = G i ∧ s.get [false, false] = G k ∧ s.get [true, false] = .ptr h.size 0 65 ∧ s.get [false, true, false] = .slice (h.size + 1) 0 (k + 1) ((k + 1) * 8) ∧ s.get [true, true, false] = G ((m + 1 : Nat) : Int) ∧ s.get [false, true, true, true] = G M.length ∧ s.get [true, true, true, true] = G u) := by
  have h8 := isMat_n hm
  refine Tr.rounds (P := fun v => (fun s h' => h' = HW h M ((k + 1) * 8) (cF M j (m + 1) u v) ∧ s.get [false] = G i ∧ s.get [false, false] = G k ∧ s.get [true, false] = .ptr h.size 0 65 ∧ s.get [false, true, false] = .slice (h.size + 1) 0 (k + 1) ((k + 1) * 8) ∧ s.get [true, true, false] = G ((m + 1 : Nat) : Int) ∧ s.get [false, false, true] = G u ∧ s.get [false, true, true, true] = G M.length ∧ s.get [true, true, true, true] = G u ∧ s.get [true, true, false, false, false] = G M.length ∧ s.get [false, false, true, false, false] = G v)) (M := M.length) (fun v hv => ?_) ?_ (by simp) 0 (by omega)
  · refine Tr.w fun s1 H1 hp R kR => W.trim ?_
    obtain ⟨rfl, q⟩ := hp
    have t := n66_11 (i := i) J (HW h M ((k + 1) * 8) (cF M j (m + 1) u v)) h hk hs hu hv h8.2 rfl (matC_len M) (bls_len _ _) (matC_at M (by omega) (by omega)) (bls_getN _ (by omega) (cF_at (by omega))) (bls_getN _ (by omega) (cF_lt (by omega) (by omega)))
    rw [cF_set (by omega) (by omega)] at t
    simp only [HW] at kR t ⊢
    generalize bls (cF M j (m + 1) u (v + 1)) ((k + 1) * 8) = c1 at *
    generalize bls (cF M j (m + 1) u v) ((k + 1) * 8) = c0 at *
    generalize matC M = cm at *
    generalize M.length = n at *
    refine W.seq (W.chunk ?_)
    simp (disch := first | omega | exact getEq rfl | exact getO0 | exact Nat.le_of_ble_eq_true rfl) [c66_o9, came_some, goI, List.getElem?_cons_zero, List.getElem?_cons_succ, kn, keep, frameOf, size_mk, get_mk_lt, get_mk_ge, Eff.app, Heap.setOwn, putAt, AV.cells, fillA, loadA, takeA, mk, Eff.isAll, Eff.isNone, Eff.commutes, Eff.spares, okPair, apart, eqAgg, fits, LK.fits, allEq, aveq, eqk, mmA, beqT, wrapI, idxI, tdivI, tmodI, decT, decF, ibT, ibF, inT, inF, evScope_c, if_pos, if_neg, Cm_some, put_plus1, thenW_n, thenW_e, thenW_r, blkW_n, blkW_e, blkW_r, if_true, q]
    refine W.seq (W.chunk ?_)
    simp (disch := first | omega | exact getEq rfl | exact getO0 | exact Nat.le_of_ble_eq_true rfl) [came_some, goI, List.getElem?_cons_zero, List.getElem?_cons_succ, kn, keep, frameOf, size_mk, get_mk_lt, get_mk_ge, Eff.app, Heap.setOwn, putAt, AV.cells, fillA, loadA, takeA, mk, Eff.isAll, Eff.isNone, Eff.commutes, Eff.spares, okPair, apart, eqAgg, fits, LK.fits, allEq, aveq, eqk, mmA, beqT, wrapI, idxI, tdivI, tmodI, decT, decF, ibT, ibF, inT, inF, evScope_c, if_pos, if_neg, Cm_some, put_plus1, thenW_n, thenW_e, thenW_r, blkW_n, blkW_e, blkW_r, if_true, q]
    refine W.seq (W.block ?_)
    refine W.seq (W.chunk ?_)
    simp (disch := first | omega | exact getEq rfl | exact getO0 | exact Nat.le_of_ble_eq_true rfl) [c66_o10, came_some, goI, List.getElem?_cons_zero, List.getElem?_cons_succ, kn, keep, frameOf, size_mk, get_mk_lt, get_mk_ge, Eff.app, Heap.setOwn, putAt, AV.cells, fillA, loadA, takeA, mk, Eff.isAll, Eff.isNone, Eff.commutes, Eff.spares, okPair, apart, eqAgg, fits, LK.fits, allEq, aveq, eqk, mmA, beqT, wrapI, idxI, tdivI, tmodI, decT, decF, ibT, ibF, inT, inF, evScope_c, if_pos, if_neg, Cm_some, put_plus1, thenW_n, thenW_e, thenW_r, blkW_n, blkW_e, blkW_r, if_true, q]
    refine W.use (t) (by simp (disch := first | omega | exact getEq rfl | exact getO0 | exact Nat.le_of_ble_eq_true rfl) [came_some, goI, List.getElem?_cons_zero, List.getElem?_cons_succ, kn, keep, frameOf, size_mk, get_mk_lt, get_mk_ge, Eff.app, Heap.setOwn, putAt, AV.cells, fillA, loadA, takeA, mk, Eff.isAll, Eff.isNone, Eff.commutes, Eff.spares, okPair, apart, eqAgg, fits, LK.fits, allEq, aveq, eqk, mmA, beqT, wrapI, idxI, tdivI, tmodI, decT, decF, ibT, ibF, inT, inF, evScope_c, if_pos, if_neg, Cm_some, put_plus1, thenW_n, thenW_e, thenW_r, blkW_n, blkW_e, blkW_r, if_true, q]) fun s1 H1 hp => ?_
    obtain ⟨rfl, q⟩ := hp
    try simp only [thenW_n, thenW_e, thenW_r, blkW_n, blkW_e, blkW_r, if_true]
    refine W.chunk ?_
    simp (disch := first | omega | exact getEq rfl | exact getO0 | exact Nat.le_of_ble_eq_true rfl) [c66_o12, came_some, goI, List.getElem?_cons_zero, List.getElem?_cons_succ, kn, keep, frameOf, size_mk, get_mk_lt, get_mk_ge, Eff.app, Heap.setOwn, putAt, AV.cells, fillA, loadA, takeA, mk, Eff.isAll, Eff.isNone, Eff.commutes, Eff.spares, okPair, apart, eqAgg, fits, LK.fits, allEq, aveq, eqk, mmA, beqT, wrapI, idxI, tdivI, tmodI, decT, decF, ibT, ibF, inT, inF, evScope_c, if_pos, if_neg, Cm_some, put_plus1, thenW_n, thenW_e, thenW_r, blkW_n, blkW_e, blkW_r, if_true, q]
    exact kR _ _ (by simp [T.get, q])
  · refine Tr.w fun s1 H1 hp R kR => W.trim ?_
    obtain ⟨rfl, q⟩ := hp
    refine W.seq (W.chunk ?_)
    simp (disch := first | omega | exact getEq rfl | exact getO0 | exact Nat.le_of_ble_eq_true rfl) [c66_o9, came_some, goI, List.getElem?_cons_zero, List.getElem?_cons_succ, kn, keep, frameOf, size_mk, get_mk_lt, get_mk_ge, Eff.app, Heap.setOwn, putAt, AV.cells, fillA, loadA, takeA, mk, Eff.isAll, Eff.isNone, Eff.commutes, Eff.spares, okPair, apart, eqAgg, fits, LK.fits, allEq, aveq, eqk, mmA, beqT, wrapI, idxI, tdivI, tmodI, decT, decF, ibT, ibF, inT, inF, evScope_c, if_pos, if_neg, Cm_some, put_plus1, thenW_n, thenW_e, thenW_r, blkW_n, blkW_e, blkW_r, if_true, q]
    refine W.seq (W.chunk ?_)
    simp (disch := first | omega | exact getEq rfl | exact getO0 | exact Nat.le_of_ble_eq_true rfl) [came_some, goI, List.getElem?_cons_zero, List.getElem?_cons_succ, kn, keep, frameOf, size_mk, get_mk_lt, get_mk_ge, Eff.app, Heap.setOwn, putAt, AV.cells, fillA, loadA, takeA, mk, Eff.isAll, Eff.isNone, Eff.commutes, Eff.spares, okPair, apart, eqAgg, fits, LK.fits, allEq, aveq, eqk, mmA, beqT, wrapI, idxI, tdivI, tmodI, decT, decF, ibT, ibF, inT, inF, evScope_c, if_pos, if_neg, Cm_some, put_plus1, thenW_n, thenW_e, thenW_r, blkW_n, blkW_e, blkW_r, if_true, q]
    exact kR _ _ (by simp [T.get, q])
theorem c66_u (J : CallF) (h : Heap) (hm : isMat M = true) {i j k m : Nat} (hk : k ≤ 100) (hs : m < k) : Tr tbl J c66_l1 (fun s h' => h' = HW h M ((k + 1) * 8) (cF M j (m + 1) 0 0) ∧ s.get [false] = G i ∧ s.get [false, false] = G k ∧ s.get [true, false] = .ptr h.size 0 65 ∧ s.get [false, true, false] = .slice (h.size + 1) 0 (k + 1) ((k + 1) * 8) ∧ s.get [true, true, false] = G ((m + 1 : Nat) : Int) ∧ s.get [false, true, true, true] = G M.length ∧ s.get [true, true, true, true] = G ((0 : Nat) : Int)) (.exit 2)
    (fun s h' => h' = HW h M ((k + 1) * 8) (cF M j (m + 1) M.length 0) ∧ s.get [false] = G i ∧ s.get [false, false] = G k ∧ s.get [true, false] = .ptr h.size 0 65 ∧ s.get [false, true, false] = .slice (h.size + 1) 0 (k + 1) ((k + 1) * 8) ∧ s.get [true, true, false] = G ((m + 1 : Nat) : Int)) := by
  have h8 := isMat_n hm
  have e0 : (matC M)[0]? = some (G M.length) := rfl
  have e0' := getI e0
  have l1 := matC_len M
  refine Tr.rounds (P := fun u => (fun s h' => h' = HW h M ((k + 1) * 8) (cF M j (m + 1) u 0) ∧ s.get [false] = G i ∧ s.get [false, false] = G k ∧ s.get [true, false] = .ptr h.size 0 65 ∧ s.get [false, true, false] = .slice (h.size + 1) 0 (k + 1) ((k + 1) * 8) ∧ s.get [true, true, false] = G ((m + 1 : Nat) : Int) ∧ s.get [false, true, true, true] = G M.length ∧ s.get [true, true, true, true] = G u)) (M := M.length) (fun u hu => ?_) ?_ (by simp) 0 (by omega)
  · refine Tr.w fun s1 H1 hp R kR => W.trim ?_
    obtain ⟨rfl, q⟩ := hp
    have l0 := c66_v (M := M) (i := i) (j := j) J h hm hk hs hu
    rw [cF_u] at l0
    simp only [HW] at kR l0 ⊢
    generalize bls (cF M j (m + 1) (u + 1) 0) ((k + 1) * 8) = c1 at *
    generalize bls (cF M j (m + 1) u 0) ((k + 1) * 8) = c0 at *
    generalize matC M = cm at *
    generalize M.length = n at *
    refine W.seq (W.chunk ?_)
    simp (disch := first | omega | exact getEq rfl | exact getO0 | exact Nat.le_of_ble_eq_true rfl) [c66_o6, came_some, goI, List.getElem?_cons_zero, List.getElem?_cons_succ, kn, keep, frameOf, size_mk, get_mk_lt, get_mk_ge, Eff.app, Heap.setOwn, putAt, AV.cells, fillA, loadA, takeA, mk, Eff.isAll, Eff.isNone, Eff.commutes, Eff.spares, okPair, apart, eqAgg, fits, LK.fits, allEq, aveq, eqk, mmA, beqT, wrapI, idxI, tdivI, tmodI, decT, decF, ibT, ibF, inT, inF, evScope_c, if_pos, if_neg, Cm_some, put_plus1, thenW_n, thenW_e, thenW_r, blkW_n, blkW_e, blkW_r, if_true, q]
    refine W.seq (W.chunk ?_)
    simp (disch := first | omega | exact getEq rfl | exact getO0 | exact Nat.le_of_ble_eq_true rfl) [came_some, goI, List.getElem?_cons_zero, List.getElem?_cons_succ, kn, keep, frameOf, size_mk, get_mk_lt, get_mk_ge, Eff.app, Heap.setOwn, putAt, AV.cells, fillA, loadA, takeA, mk, Eff.isAll, Eff.isNone, Eff.commutes, Eff.spares, okPair, apart, eqAgg, fits, LK.fits, allEq, aveq, eqk, mmA, beqT, wrapI, idxI, tdivI, tmodI, decT, decF, ibT, ibF, inT, inF, evScope_c, if_pos, if_neg, Cm_some, put_plus1, thenW_n, thenW_e, thenW_r, blkW_n, blkW_e, blkW_r, if_true, q]
    refine W.seq (W.block ?_)
    refine W.seq (W.chunk ?_)
    simp (disch := first | omega | exact getEq rfl | exact getO0 | exact Nat.le_of_ble_eq_true rfl) [c66_o7, came_some, goI, List.getElem?_cons_zero, List.getElem?_cons_succ, kn, keep, frameOf, size_mk, get_mk_lt, get_mk_ge, Eff.app, Heap.setOwn, putAt, AV.cells, fillA, loadA, takeA, mk, Eff.isAll, Eff.isNone, Eff.commutes, Eff.spares, okPair, apart, eqAgg, fits, LK.fits, allEq, aveq, eqk, mmA, beqT, wrapI, idxI, tdivI, tmodI, decT, decF, ibT, ibF, inT, inF, evScope_c, if_pos, if_neg, Cm_some, put_plus1, thenW_n, thenW_e, thenW_r, blkW_n, blkW_e, blkW_r, if_true, q]
    refine W.seq (W.chunk ?_)
    simp (disch := first | omega | exact getEq rfl | exact getO0 | exact Nat.le_of_ble_eq_true rfl) [c66_o8, came_some, goI, List.getElem?_cons_zero, List.getElem?_cons_succ, kn, keep, frameOf, size_mk, get_mk_lt, get_mk_ge, Eff.app, Heap.setOwn, putAt, AV.cells, fillA, loadA, takeA, mk, Eff.isAll, Eff.isNone, Eff.commutes, Eff.spares, okPair, apart, eqAgg, fits, LK.fits, allEq, aveq, eqk, mmA, beqT, wrapI, idxI, tdivI, tmodI, decT, decF, ibT, ibF, inT, inF, evScope_c, if_pos, if_neg, Cm_some, put_plus1, thenW_n, thenW_e, thenW_r, blkW_n, blkW_e, blkW_r, if_true, q, e0, e0', l1]
    refine W.block ?_
    refine W.use (l0) (by simp (disch := first | omega | exact getEq rfl | exact getO0 | exact Nat.le_of_ble_eq_true rfl) [came_some, goI, List.getElem?_cons_zero, List.getElem?_cons_succ, kn, keep, frameOf, size_mk, get_mk_lt, get_mk_ge, Eff.app, Heap.setOwn, putAt, AV.cells, fillA, loadA, takeA, mk, Eff.isAll, Eff.isNone, Eff.commutes, Eff.spares, okPair, apart, eqAgg, fits, LK.fits, allEq, aveq, eqk, mmA, beqT, wrapI, idxI, tdivI, tmodI, decT, decF, ibT, ibF, inT, inF, evScope_c, if_pos, if_neg, Cm_some, put_plus1, thenW_n, thenW_e, thenW_r, blkW_n, blkW_e, blkW_r, if_true, q]) fun s1 H1 hp => ?_
    obtain ⟨rfl, q⟩ := hp
    try simp only [thenW_n, thenW_e, thenW_r, blkW_n, blkW_e, blkW_r, if_true]
    refine W.chunk ?_
    simp (disch := first | omega | exact getEq rfl | exact getO0 | exact Nat.le_of_ble_eq_true rfl) [c66_o13, came_some, goI, List.getElem?_cons_zero, List.getElem?_cons_succ, kn, keep, frameOf, size_mk, get_mk_lt, get_mk_ge, Eff.app, Heap.setOwn, putAt, AV.cells, fillA, loadA, takeA, mk, Eff.isAll, Eff.isNone, Eff.commutes, Eff.spares, okPair, apart, eqAgg, fits, LK.fits, allEq, aveq, eqk, mmA, beqT, wrapI, idxI, tdivI, tmodI, decT, decF, ibT, ibF, inT, inF, evScope_c, if_pos, if_neg, Cm_some, put_plus1, thenW_n, thenW_e, thenW_r, blkW_n, blkW_e, blkW_r, if_true, q]
    exact kR _ _ (by simp [T.get, q])
  · refine Tr.w fun s1 H1 hp R kR => W.trim ?_
    obtain ⟨rfl, q⟩ := hp
    refine W.seq (W.chunk ?_)
    simp (disch := first | omega | exact getEq rfl | exact getO0 | exact Nat.le_of_ble_eq_true rfl) [c66_o6, came_some, goI, List.getElem?_cons_zero, List.getElem?_cons_succ, kn, keep, frameOf, size_mk, get_mk_lt, get_mk_ge, Eff.app, Heap.setOwn, putAt, AV.cells, fillA, loadA, takeA, mk, Eff.isAll, Eff.isNone, Eff.commutes, Eff.spares, okPair, apart, eqAgg, fits, LK.fits, allEq, aveq, eqk, mmA, beqT, wrapI, idxI, tdivI, tmodI, decT, decF, ibT, ibF, inT, inF, evScope_c, if_pos, if_neg, Cm_some, put_plus1, thenW_n, thenW_e, thenW_r, blkW_n, blkW_e, blkW_r, if_true, q]
    refine W.seq (W.chunk ?_)
    simp (disch := first | omega | exact getEq rfl | exact getO0 | exact Nat.le_of_ble_eq_true rfl) [came_some, goI, List.getElem?_cons_zero, List.getElem?_cons_succ, kn, keep, frameOf, size_mk, get_mk_lt, get_mk_ge, Eff.app, Heap.setOwn, putAt, AV.cells, fillA, loadA, takeA, mk, Eff.isAll, Eff.isNone, Eff.commutes, Eff.spares, okPair, apart, eqAgg, fits, LK.fits, allEq, aveq, eqk, mmA, beqT, wrapI, idxI, tdivI, tmodI, decT, decF, ibT, ibF, inT, inF, evScope_c, if_pos, if_neg, Cm_some, put_plus1, thenW_n, thenW_e, thenW_r, blkW_n, blkW_e, blkW_r, if_true, q]
    exact kR _ _ (by simp [T.get, q])
theorem c66_s (J : CallF) (h : Heap) (hm : isMat M = true) {i j k : Nat} (hk : k ≤ 100) : Tr tbl J c66_l2 (fun s h' => h' = HW h M ((k + 1) * 8) (cF M j (0 + 1) 0 0) ∧ s.get [false] = G i ∧ s.get [false, false] = G k ∧ s.get [true, false] = .ptr h.size 0 65 ∧ s.get [false, true, false] = .slice (h.size + 1) 0 (k + 1) ((k + 1) * 8) ∧ s.get [true, true, false] = G ((0 + 1 : Nat) : Int)) (.exit 0)
    (fun s h' => h' = HW h M ((k + 1) * 8) (cF M j (k + 1) 0 0) ∧ s.get [false] = G i ∧ s.get [false, false] = G k ∧ s.get [true, false] = .ptr h.size 0 65 ∧ s.get [false, true, false] = .slice (h.size + 1) 0 (k + 1) ((k + 1) * 8)) := by
  have h8 := isMat_n hm
  have e0 : (matC M)[0]? = some (G M.length) := rfl
  have e0' := getI e0
  have l1 := matC_len M
  refine Tr.rounds (P := fun m => (fun s h' => h' = HW h M ((k + 1) * 8) (cF M j (m + 1) 0 0) ∧ s.get [false] = G i ∧ s.get [false, false] = G k ∧ s.get [true, false] = .ptr h.size 0 65 ∧ s.get [false, true, false] = .slice (h.size + 1) 0 (k + 1) ((k + 1) * 8) ∧ s.get [true, true, false] = G ((m + 1 : Nat) : Int))) (M := k) (fun m hs => ?_) ?_ (by simp) 0 (by omega)
  · refine Tr.w fun s1 H1 hp R kR => W.trim ?_
    obtain ⟨rfl, q⟩ := hp
    have l0 := c66_u (M := M) (i := i) (j := j) J h hm hk hs
    rw [cF_s hm] at l0
    simp only [HW] at kR l0 ⊢
    generalize bls (cF M j (m + 1 + 1) 0 0) ((k + 1) * 8) = c1 at *
    generalize bls (cF M j (m + 1) 0 0) ((k + 1) * 8) = c0 at *
    generalize matC M = cm at *
    generalize M.length = n at *
    refine W.assoc ?_
    refine W.seq (W.chunk ?_)
    simp (disch := first | omega | exact getEq rfl | exact getO0 | exact Nat.le_of_ble_eq_true rfl) [c66_o4, came_some, goI, List.getElem?_cons_zero, List.getElem?_cons_succ, kn, keep, frameOf, size_mk, get_mk_lt, get_mk_ge, Eff.app, Heap.setOwn, putAt, AV.cells, fillA, loadA, takeA, mk, Eff.isAll, Eff.isNone, Eff.commutes, Eff.spares, okPair, apart, eqAgg, fits, LK.fits, allEq, aveq, eqk, mmA, beqT, wrapI, idxI, tdivI, tmodI, decT, decF, ibT, ibF, inT, inF, evScope_c, if_pos, if_neg, Cm_some, put_plus1, thenW_n, thenW_e, thenW_r, blkW_n, blkW_e, blkW_r, if_true, q]
    refine W.seq (W.chunk ?_)
    simp (disch := first | omega | exact getEq rfl | exact getO0 | exact Nat.le_of_ble_eq_true rfl) [came_some, goI, List.getElem?_cons_zero, List.getElem?_cons_succ, kn, keep, frameOf, size_mk, get_mk_lt, get_mk_ge, Eff.app, Heap.setOwn, putAt, AV.cells, fillA, loadA, takeA, mk, Eff.isAll, Eff.isNone, Eff.commutes, Eff.spares, okPair, apart, eqAgg, fits, LK.fits, allEq, aveq, eqk, mmA, beqT, wrapI, idxI, tdivI, tmodI, decT, decF, ibT, ibF, inT, inF, evScope_c, if_pos, if_neg, Cm_some, put_plus1, thenW_n, thenW_e, thenW_r, blkW_n, blkW_e, blkW_r, if_true, q]
    refine W.seq (W.block ?_)
    refine W.seq (W.chunk ?_)
    simp (disch := first | omega | exact getEq rfl | exact getO0 | exact Nat.le_of_ble_eq_true rfl) [c66_o5, came_some, goI, List.getElem?_cons_zero, List.getElem?_cons_succ, kn, keep, frameOf, size_mk, get_mk_lt, get_mk_ge, Eff.app, Heap.setOwn, putAt, AV.cells, fillA, loadA, takeA, mk, Eff.isAll, Eff.isNone, Eff.commutes, Eff.spares, okPair, apart, eqAgg, fits, LK.fits, allEq, aveq, eqk, mmA, beqT, wrapI, idxI, tdivI, tmodI, decT, decF, ibT, ibF, inT, inF, evScope_c, if_pos, if_neg, Cm_some, put_plus1, thenW_n, thenW_e, thenW_r, blkW_n, blkW_e, blkW_r, if_true, q, e0, e0', l1]
    refine W.block ?_
    refine W.use (l0) (by simp (disch := first | omega | exact getEq rfl | exact getO0 | exact Nat.le_of_ble_eq_true rfl) [came_some, goI, List.getElem?_cons_zero, List.getElem?_cons_succ, kn, keep, frameOf, size_mk, get_mk_lt, get_mk_ge, Eff.app, Heap.setOwn, putAt, AV.cells, fillA, loadA, takeA, mk, Eff.isAll, Eff.isNone, Eff.commutes, Eff.spares, okPair, apart, eqAgg, fits, LK.fits, allEq, aveq, eqk, mmA, beqT, wrapI, idxI, tdivI, tmodI, decT, decF, ibT, ibF, inT, inF, evScope_c, if_pos, if_neg, Cm_some, put_plus1, thenW_n, thenW_e, thenW_r, blkW_n, blkW_e, blkW_r, if_true, q]) fun s1 H1 hp => ?_
    obtain ⟨rfl, q⟩ := hp
    try simp only [thenW_n, thenW_e, thenW_r, blkW_n, blkW_e, blkW_r, if_true]
    refine W.chunk ?_
    simp (disch := first | omega | exact getEq rfl | exact getO0 | exact Nat.le_of_ble_eq_true rfl) [c66_o14, came_some, goI, List.getElem?_cons_zero, List.getElem?_cons_succ, kn, keep, frameOf, size_mk, get_mk_lt, get_mk_ge, Eff.app, Heap.setOwn, putAt, AV.cells, fillA, loadA, takeA, mk, Eff.isAll, Eff.isNone, Eff.commutes, Eff.spares, okPair, apart, eqAgg, fits, LK.fits, allEq, aveq, eqk, mmA, beqT, wrapI, idxI, tdivI, tmodI, decT, decF, ibT, ibF, inT, inF, evScope_c, if_pos, if_neg, Cm_some, put_plus1, thenW_n, thenW_e, thenW_r, blkW_n, blkW_e, blkW_r, if_true, q]
    exact kR _ _ (by simp [T.get, q])
  · refine Tr.w fun s1 H1 hp R kR => W.trim ?_
    obtain ⟨rfl, q⟩ := hp
    refine W.assoc ?_
    refine W.seq (W.chunk ?_)
    simp (disch := first | omega | exact getEq rfl | exact getO0 | exact Nat.le_of_ble_eq_true rfl) [c66_o4, came_some, goI, List.getElem?_cons_zero, List.getElem?_cons_succ, kn, keep, frameOf, size_mk, get_mk_lt, get_mk_ge, Eff.app, Heap.setOwn, putAt, AV.cells, fillA, loadA, takeA, mk, Eff.isAll, Eff.isNone, Eff.commutes, Eff.spares, okPair, apart, eqAgg, fits, LK.fits, allEq, aveq, eqk, mmA, beqT, wrapI, idxI, tdivI, tmodI, decT, decF, ibT, ibF, inT, inF, evScope_c, if_pos, if_neg, Cm_some, put_plus1, thenW_n, thenW_e, thenW_r, blkW_n, blkW_e, blkW_r, if_true, q]
    refine W.seq (W.chunk ?_)
    simp (disch := first | omega | exact getEq rfl | exact getO0 | exact Nat.le_of_ble_eq_true rfl) [came_some, goI, List.getElem?_cons_zero, List.getElem?_cons_succ, kn, keep, frameOf, size_mk, get_mk_lt, get_mk_ge, Eff.app, Heap.setOwn, putAt, AV.cells, fillA, loadA, takeA, mk, Eff.isAll, Eff.isNone, Eff.commutes, Eff.spares, okPair, apart, eqAgg, fits, LK.fits, allEq, aveq, eqk, mmA, beqT, wrapI, idxI, tdivI, tmodI, decT, decF, ibT, ibF, inT, inF, evScope_c, if_pos, if_neg, Cm_some, put_plus1, thenW_n, thenW_e, thenW_r, blkW_n, blkW_e, blkW_r, if_true, q]
    exact kR _ _ (by simp [T.get, q])
theorem gs_last {L : List Int} {u : Int} {m : Nat} (h : L.length = m) : (gs (L ++ [u]))[m]? = some (G u) := by
  rw [List.getElem?_map, List.getElem?_append_right (by omega), h, Nat.sub_self]; rfl
/-- One number more of a walk. -/
theorem c66_l3_ok (J : CallF) {H h2 : Heap} {bm bc q0 n k N m t u w : Nat} {F : Nat → Bool} {cq : List AV} {x1 : AV} {e : Eff} (gm : H.get bm = .cells 0 65 (matC M)) (gc : H.get bc = .cells 8 N (bls F N)) (gq : H.get q0 = .cells 1 (m + 1) cq) (el : cq[m]? = some (G u)) (hm : m ≤ 200) (hk : k ≤ 100) (ht : t < k + 1) (hN : N = (k + 1) * 8) (hu : u < n) (hn : n ≤ 8)
    (hw : w < n) (w1 : 0 < ent M u w) (w2 : F (t * 8 + w) = true) (w3 : ∀ z, z < w → ¬ (0 < ent M u z ∧ F (t * 8 + z) = true)) (q1 : appA (H.plus [.cells 1 1 [G w]]) H.size none 1 8 1 [G w] (.slice q0 0 (m + 1) (m + 1)) = some (x1, e)) (q2 : Eff.app e (H.plus [.cells 1 1 [G w]]) = some h2) :
    ∀ d v, v + d = w → Tr tbl J c66_l3 (fun s h => h = H ∧ s.get [true, false] = .ptr bm 0 65 ∧ s.get [false, true, false] = .slice bc 0 (k + 1) N ∧ s.get [false, true, true] = .slice q0 0 (m + 1) (m + 1) ∧ s.get [true, true, true] = G t ∧ s.get [false, true, true, false, true, false] = G n ∧ s.get [true, true, true, false, true, false] = G v) (.exit 8) (fun s h => h = h2 ∧ s.get [true, false] = .ptr bm 0 65 ∧ s.get [false, true, false] = .slice bc 0 (k + 1) N ∧ s.get [false, true, true] = x1 ∧ s.get [true, true, true] = G t) := by
  have f1 := app1_at H (G w)
  have el' := getI el
  have l1 := matC_len M
  have l0 := bls_len F N
  intro d
  induction d with
  | zero =>
    intro v hv
    obtain rfl : v = w := by omega
    have ea := matC_at M (i := u) (j := v) (by omega) (by omega)
    have ea' := getI ea
    have eb := bls_getN F (i := t * 8 + v) (N := N) (by omega) w2
    have eb' := getI eb
    generalize ent M u v = a at *
    generalize matC M = cm at *
    generalize bls F N = cb at *
    refine Tr.out ?_ (by simp)
    refine Tr.w fun s1 H1 hp R kR => W.trim ?_
    obtain ⟨rfl, q⟩ := hp
    refine W.seq (W.chunk ?_)
    simp (disch := first | omega | exact getEq rfl | exact getO0 | exact Nat.le_of_ble_eq_true rfl) [c66_o21, came_some, goI, List.getElem?_cons_zero, List.getElem?_cons_succ, kn, keep, app_growP, app_noneP, plus_N, plus_at0, put_plus0, upd_N, upd_size, putAt, AV.cells, fillA, loadA, takeA, mk, Eff.isAll, Eff.isNone, Eff.commutes, Eff.spares, okPair, apart, eqAgg, fits, LK.fits, allEq, aveq, eqk, mmA, beqT, wrapI, idxI, tdivI, tmodI, decT, decF, ibT, ibF, inT, inF, evScope_c, if_pos, if_neg, Cm_some, put_plus1, thenW_n, thenW_e, thenW_r, blkW_n, blkW_e, blkW_r, if_true, q, gm, gc, gq, el, el', l1, l0, ea, ea', eb, eb']
    refine W.seq (W.chunk ?_)
    simp (disch := first | omega | exact getEq rfl | exact getO0 | exact Nat.le_of_ble_eq_true rfl) [came_some, goI, List.getElem?_cons_zero, List.getElem?_cons_succ, kn, keep, app_growP, app_noneP, plus_N, plus_at0, put_plus0, upd_N, upd_size, putAt, AV.cells, fillA, loadA, takeA, mk, Eff.isAll, Eff.isNone, Eff.commutes, Eff.spares, okPair, apart, eqAgg, fits, LK.fits, allEq, aveq, eqk, mmA, beqT, wrapI, idxI, tdivI, tmodI, decT, decF, ibT, ibF, inT, inF, evScope_c, if_pos, if_neg, Cm_some, put_plus1, thenW_n, thenW_e, thenW_r, blkW_n, blkW_e, blkW_r, if_true, q, gm, gc, gq, el, el', l1, l0, ea, ea', eb, eb']
    refine W.seq (W.block ?_)
    refine W.seq (W.chunk ?_)
    simp (disch := first | omega | exact getEq rfl | exact getO0 | exact Nat.le_of_ble_eq_true rfl) [c66_o22, came_some, goI, List.getElem?_cons_zero, List.getElem?_cons_succ, kn, keep, app_growP, app_noneP, plus_N, plus_at0, put_plus0, upd_N, upd_size, putAt, AV.cells, fillA, loadA, takeA, mk, Eff.isAll, Eff.isNone, Eff.commutes, Eff.spares, okPair, apart, eqAgg, fits, LK.fits, allEq, aveq, eqk, mmA, beqT, wrapI, idxI, tdivI, tmodI, decT, decF, ibT, ibF, inT, inF, evScope_c, if_pos, if_neg, Cm_some, put_plus1, thenW_n, thenW_e, thenW_r, blkW_n, blkW_e, blkW_r, if_true, q, gm, gc, gq, el, el', l1, l0, ea, ea', eb, eb']
    refine W.seq (W.chunk ?_)
    simp (disch := first | omega | exact getEq rfl | exact getO0 | exact Nat.le_of_ble_eq_true rfl) [c66_o23, came_some, goI, List.getElem?_cons_zero, List.getElem?_cons_succ, kn, keep, app_growP, app_noneP, plus_N, plus_at0, put_plus0, upd_N, upd_size, putAt, AV.cells, fillA, loadA, takeA, mk, Eff.isAll, Eff.isNone, Eff.commutes, Eff.spares, okPair, apart, eqAgg, fits, LK.fits, allEq, aveq, eqk, mmA, beqT, wrapI, idxI, tdivI, tmodI, decT, decF, ibT, ibF, inT, inF, evScope_c, if_pos, if_neg, Cm_some, put_plus1, thenW_n, thenW_e, thenW_r, blkW_n, blkW_e, blkW_r, if_true, q, gm, gc, gq, el, el', l1, l0, ea, ea', eb, eb']
    refine W.chunk ?_
    simp (disch := first | omega | exact getEq rfl | exact getO0 | exact Nat.le_of_ble_eq_true rfl) [c66_o24, came_some, goI, List.getElem?_cons_zero, List.getElem?_cons_succ, kn, keep, app_growP, app_noneP, plus_N, plus_at0, put_plus0, upd_N, upd_size, putAt, AV.cells, fillA, loadA, takeA, mk, Eff.isAll, Eff.isNone, Eff.commutes, Eff.spares, okPair, apart, eqAgg, fits, LK.fits, allEq, aveq, eqk, mmA, beqT, wrapI, idxI, tdivI, tmodI, decT, decF, ibT, ibF, inT, inF, evScope_c, if_pos, if_neg, Cm_some, put_plus1, thenW_n, thenW_e, thenW_r, blkW_n, blkW_e, blkW_r, if_true, q, gm, gc, gq, el, el', l1, l0, ea, ea', eb, eb', elems, rdOf, f1, q1, q2]
    exact kR _ _ (by simp [T.get, q])
  | succ d ih =>
    intro v hv
    refine Tr.next ?_ (ih (v + 1) (by omega))
    have ea := matC_at M (i := u) (j := v) (by omega) (by omega)
    have ea' := getI ea
    have eb := bls_getN F (i := t * 8 + v) (N := N) (by omega) rfl
    have eb' := getI eb
    have w4 := w3 v (by omega)
    generalize F (t * 8 + v) = b at *
    generalize ent M u v = a at *
    generalize matC M = cm at *
    generalize bls F N = cb at *
    by_cases ca : 0 < a
    · have hb : b = false := by cases b <;> simp_all
      subst hb
      refine Tr.w fun s1 H1 hp R kR => W.trim ?_
      obtain ⟨rfl, q⟩ := hp
      refine W.seq (W.chunk ?_)
      simp (disch := first | omega | exact getEq rfl | exact getO0 | exact Nat.le_of_ble_eq_true rfl) [c66_o21, came_some, goI, List.getElem?_cons_zero, List.getElem?_cons_succ, kn, keep, app_growP, app_noneP, plus_N, plus_at0, put_plus0, upd_N, upd_size, putAt, AV.cells, fillA, loadA, takeA, mk, Eff.isAll, Eff.isNone, Eff.commutes, Eff.spares, okPair, apart, eqAgg, fits, LK.fits, allEq, aveq, eqk, mmA, beqT, wrapI, idxI, tdivI, tmodI, decT, decF, ibT, ibF, inT, inF, evScope_c, if_pos, if_neg, Cm_some, put_plus1, thenW_n, thenW_e, thenW_r, blkW_n, blkW_e, blkW_r, if_true, q, gm, gc, gq, el, el', l1, l0, ea, ea', eb, eb']
      refine W.seq (W.chunk ?_)
      simp (disch := first | omega | exact getEq rfl | exact getO0 | exact Nat.le_of_ble_eq_true rfl) [came_some, goI, List.getElem?_cons_zero, List.getElem?_cons_succ, kn, keep, app_growP, app_noneP, plus_N, plus_at0, put_plus0, upd_N, upd_size, putAt, AV.cells, fillA, loadA, takeA, mk, Eff.isAll, Eff.isNone, Eff.commutes, Eff.spares, okPair, apart, eqAgg, fits, LK.fits, allEq, aveq, eqk, mmA, beqT, wrapI, idxI, tdivI, tmodI, decT, decF, ibT, ibF, inT, inF, evScope_c, if_pos, if_neg, Cm_some, put_plus1, thenW_n, thenW_e, thenW_r, blkW_n, blkW_e, blkW_r, if_true, q, gm, gc, gq, el, el', l1, l0, ea, ea', eb, eb']
      refine W.seq (W.block ?_)
      refine W.seq (W.chunk ?_)
      simp (disch := first | omega | exact getEq rfl | exact getO0 | exact Nat.le_of_ble_eq_true rfl) [c66_o22, came_some, goI, List.getElem?_cons_zero, List.getElem?_cons_succ, kn, keep, app_growP, app_noneP, plus_N, plus_at0, put_plus0, upd_N, upd_size, putAt, AV.cells, fillA, loadA, takeA, mk, Eff.isAll, Eff.isNone, Eff.commutes, Eff.spares, okPair, apart, eqAgg, fits, LK.fits, allEq, aveq, eqk, mmA, beqT, wrapI, idxI, tdivI, tmodI, decT, decF, ibT, ibF, inT, inF, evScope_c, if_pos, if_neg, Cm_some, put_plus1, thenW_n, thenW_e, thenW_r, blkW_n, blkW_e, blkW_r, if_true, q, gm, gc, gq, el, el', l1, l0, ea, ea', eb, eb']
      refine W.seq (W.chunk ?_)
      simp (disch := first | omega | exact getEq rfl | exact getO0 | exact Nat.le_of_ble_eq_true rfl) [c66_o23, came_some, goI, List.getElem?_cons_zero, List.getElem?_cons_succ, kn, keep, app_growP, app_noneP, plus_N, plus_at0, put_plus0, upd_N, upd_size, putAt, AV.cells, fillA, loadA, takeA, mk, Eff.isAll, Eff.isNone, Eff.commutes, Eff.spares, okPair, apart, eqAgg, fits, LK.fits, allEq, aveq, eqk, mmA, beqT, wrapI, idxI, tdivI, tmodI, decT, decF, ibT, ibF, inT, inF, evScope_c, if_pos, if_neg, Cm_some, put_plus1, thenW_n, thenW_e, thenW_r, blkW_n, blkW_e, blkW_r, if_true, q, gm, gc, gq, el, el', l1, l0, ea, ea', eb, eb']
      refine W.chunk ?_
      simp (disch := first | omega | exact getEq rfl | exact getO0 | exact Nat.le_of_ble_eq_true rfl) [c66_o24, came_some, goI, List.getElem?_cons_zero, List.getElem?_cons_succ, kn, keep, app_growP, app_noneP, plus_N, plus_at0, put_plus0, upd_N, upd_size, putAt, AV.cells, fillA, loadA, takeA, mk, Eff.isAll, Eff.isNone, Eff.commutes, Eff.spares, okPair, apart, eqAgg, fits, LK.fits, allEq, aveq, eqk, mmA, beqT, wrapI, idxI, tdivI, tmodI, decT, decF, ibT, ibF, inT, inF, evScope_c, if_pos, if_neg, Cm_some, put_plus1, thenW_n, thenW_e, thenW_r, blkW_n, blkW_e, blkW_r, if_true, q, gm, gc, gq, el, el', l1, l0, ea, ea', eb, eb']
      refine W.chunk ?_
      simp (disch := first | omega | exact getEq rfl | exact getO0 | exact Nat.le_of_ble_eq_true rfl) [c66_o25, came_some, goI, List.getElem?_cons_zero, List.getElem?_cons_succ, kn, keep, app_growP, app_noneP, plus_N, plus_at0, put_plus0, upd_N, upd_size, putAt, AV.cells, fillA, loadA, takeA, mk, Eff.isAll, Eff.isNone, Eff.commutes, Eff.spares, okPair, apart, eqAgg, fits, LK.fits, allEq, aveq, eqk, mmA, beqT, wrapI, idxI, tdivI, tmodI, decT, decF, ibT, ibF, inT, inF, evScope_c, if_pos, if_neg, Cm_some, put_plus1, thenW_n, thenW_e, thenW_r, blkW_n, blkW_e, blkW_r, if_true, q, gm, gc, gq, el, el', l1, l0, ea, ea', eb, eb']
      exact kR _ _ (by simp [T.get, q])
    · refine Tr.w fun s1 H1 hp R kR => W.trim ?_
      obtain ⟨rfl, q⟩ := hp
      refine W.seq (W.chunk ?_)
      simp (disch := first | omega | exact getEq rfl | exact getO0 | exact Nat.le_of_ble_eq_true rfl) [c66_o21, came_some, goI, List.getElem?_cons_zero, List.getElem?_cons_succ, kn, keep, app_growP, app_noneP, plus_N, plus_at0, put_plus0, upd_N, upd_size, putAt, AV.cells, fillA, loadA, takeA, mk, Eff.isAll, Eff.isNone, Eff.commutes, Eff.spares, okPair, apart, eqAgg, fits, LK.fits, allEq, aveq, eqk, mmA, beqT, wrapI, idxI, tdivI, tmodI, decT, decF, ibT, ibF, inT, inF, evScope_c, if_pos, if_neg, Cm_some, put_plus1, thenW_n, thenW_e, thenW_r, blkW_n, blkW_e, blkW_r, if_true, q, gm, gc, gq, el, el', l1, l0, ea, ea', eb, eb']
      refine W.seq (W.chunk ?_)
      simp (disch := first | omega | exact getEq rfl | exact getO0 | exact Nat.le_of_ble_eq_true rfl) [came_some, goI, List.getElem?_cons_zero, List.getElem?_cons_succ, kn, keep, app_growP, app_noneP, plus_N, plus_at0, put_plus0, upd_N, upd_size, putAt, AV.cells, fillA, loadA, takeA, mk, Eff.isAll, Eff.isNone, Eff.commutes, Eff.spares, okPair, apart, eqAgg, fits, LK.fits, allEq, aveq, eqk, mmA, beqT, wrapI, idxI, tdivI, tmodI, decT, decF, ibT, ibF, inT, inF, evScope_c, if_pos, if_neg, Cm_some, put_plus1, thenW_n, thenW_e, thenW_r, blkW_n, blkW_e, blkW_r, if_true, q, gm, gc, gq, el, el', l1, l0, ea, ea', eb, eb']
      refine W.seq (W.block ?_)
      refine W.seq (W.chunk ?_)
      simp (disch := first | omega | exact getEq rfl | exact getO0 | exact Nat.le_of_ble_eq_true rfl) [c66_o22, came_some, goI, List.getElem?_cons_zero, List.getElem?_cons_succ, kn, keep, app_growP, app_noneP, plus_N, plus_at0, put_plus0, upd_N, upd_size, putAt, AV.cells, fillA, loadA, takeA, mk, Eff.isAll, Eff.isNone, Eff.commutes, Eff.spares, okPair, apart, eqAgg, fits, LK.fits, allEq, aveq, eqk, mmA, beqT, wrapI, idxI, tdivI, tmodI, decT, decF, ibT, ibF, inT, inF, evScope_c, if_pos, if_neg, Cm_some, put_plus1, thenW_n, thenW_e, thenW_r, blkW_n, blkW_e, blkW_r, if_true, q, gm, gc, gq, el, el', l1, l0, ea, ea', eb, eb']
      refine W.seq (W.chunk ?_)
      simp (disch := first | omega | exact getEq rfl | exact getO0 | exact Nat.le_of_ble_eq_true rfl) [c66_o23, came_some, goI, List.getElem?_cons_zero, List.getElem?_cons_succ, kn, keep, app_growP, app_noneP, plus_N, plus_at0, put_plus0, upd_N, upd_size, putAt, AV.cells, fillA, loadA, takeA, mk, Eff.isAll, Eff.isNone, Eff.commutes, Eff.spares, okPair, apart, eqAgg, fits, LK.fits, allEq, aveq, eqk, mmA, beqT, wrapI, idxI, tdivI, tmodI, decT, decF, ibT, ibF, inT, inF, evScope_c, if_pos, if_neg, Cm_some, put_plus1, thenW_n, thenW_e, thenW_r, blkW_n, blkW_e, blkW_r, if_true, q, gm, gc, gq, el, el', l1, l0, ea, ea', eb, eb']
      refine W.chunk ?_
      simp (disch := first | omega | exact getEq rfl | exact getO0 | exact Nat.le_of_ble_eq_true rfl) [c66_o24, came_some, goI, List.getElem?_cons_zero, List.getElem?_cons_succ, kn, keep, app_growP, app_noneP, plus_N, plus_at0, put_plus0, upd_N, upd_size, putAt, AV.cells, fillA, loadA, takeA, mk, Eff.isAll, Eff.isNone, Eff.commutes, Eff.spares, okPair, apart, eqAgg, fits, LK.fits, allEq, aveq, eqk, mmA, beqT, wrapI, idxI, tdivI, tmodI, decT, decF, ibT, ibF, inT, inF, evScope_c, if_pos, if_neg, Cm_some, put_plus1, thenW_n, thenW_e, thenW_r, blkW_n, blkW_e, blkW_r, if_true, q, gm, gc, gq, el, el', l1, l0, ea, ea', eb, eb']
      refine W.chunk ?_
      simp (disch := first | omega | exact getEq rfl | exact getO0 | exact Nat.le_of_ble_eq_true rfl) [c66_o25, came_some, goI, List.getElem?_cons_zero, List.getElem?_cons_succ, kn, keep, app_growP, app_noneP, plus_N, plus_at0, put_plus0, upd_N, upd_size, putAt, AV.cells, fillA, loadA, takeA, mk, Eff.isAll, Eff.isNone, Eff.commutes, Eff.spares, okPair, apart, eqAgg, fits, LK.fits, allEq, aveq, eqk, mmA, beqT, wrapI, idxI, tdivI, tmodI, decT, decF, ibT, ibF, inT, inF, evScope_c, if_pos, if_neg, Cm_some, put_plus1, thenW_n, thenW_e, thenW_r, blkW_n, blkW_e, blkW_r, if_true, q, gm, gc, gq, el, el', l1, l0, ea, ea', eb, eb']
      exact kR _ _ (by simp [T.get, q])
theorem c66_l4_ok (J : CallF) (hm : isMat M = true) {H0 : Heap} {bm bc j k N : Nat} {F : Nat → Bool} (gm : H0.get bm = .cells 0 65 (matC M)) (gc : H0.get bc = .cells 8 N (bls F N)) (hk : k ≤ 100) (hN : N = (k + 1) * 8) (hF : ∀ t z, t ≤ k → z < 8 → F (t * 8 + z) = cw M j t z) :
    ∀ (t : Nat) (L : List Int) (u : Nat) (x : AV) (H : Heap), t ≤ k → L.length + t = k → u < M.length → cw M j t u = true → NG H0 H x (L ++ [(u : Int)]) → Tr tbl J c66_l4 (fun s h => h = H ∧ s.get [true, false] = .ptr bm 0 65 ∧ s.get [false, true, false] = .slice bc 0 (k + 1) N ∧ s.get [false, true, true] = x ∧ s.get [true, true, true] = G ((t : Int) - 1)) (.exit 6) (fun s h => ∃ x', NG H0 h x' (L ++ [(u : Int)] ++ wlk M j t u) ∧ s.get [false, true, true] = x') := by
  have h8 := isMat_n hm
  intro t
  induction t with
  | zero =>
    intro L u x H ht hl hu hc ng
    refine Tr.out ?_ (by simp)
    refine Tr.w fun s1 H1 hp R kR => W.trim ?_
    obtain ⟨rfl, q⟩ := hp
    refine W.assoc ?_
    refine W.seq (W.chunk ?_)
    simp (disch := first | omega | exact getEq rfl | exact getO0 | exact Nat.le_of_ble_eq_true rfl) [c66_o19, came_some, goI, List.getElem?_cons_zero, List.getElem?_cons_succ, kn, keep, app_growP, app_noneP, plus_N, plus_at0, put_plus0, upd_N, upd_size, putAt, AV.cells, fillA, loadA, takeA, mk, Eff.isAll, Eff.isNone, Eff.commutes, Eff.spares, okPair, apart, eqAgg, fits, LK.fits, allEq, aveq, eqk, mmA, beqT, wrapI, idxI, tdivI, tmodI, decT, decF, ibT, ibF, inT, inF, evScope_c, if_pos, if_neg, Cm_some, put_plus1, thenW_n, thenW_e, thenW_r, blkW_n, blkW_e, blkW_r, if_true, q]
    refine W.seq (W.chunk ?_)
    simp (disch := first | omega | exact getEq rfl | exact getO0 | exact Nat.le_of_ble_eq_true rfl) [came_some, goI, List.getElem?_cons_zero, List.getElem?_cons_succ, kn, keep, app_growP, app_noneP, plus_N, plus_at0, put_plus0, upd_N, upd_size, putAt, AV.cells, fillA, loadA, takeA, mk, Eff.isAll, Eff.isNone, Eff.commutes, Eff.spares, okPair, apart, eqAgg, fits, LK.fits, allEq, aveq, eqk, mmA, beqT, wrapI, idxI, tdivI, tmodI, decT, decF, ibT, ibF, inT, inF, evScope_c, if_pos, if_neg, Cm_some, put_plus1, thenW_n, thenW_e, thenW_r, blkW_n, blkW_e, blkW_r, if_true, q]
    exact kR _ _ ⟨x, by simpa [wlk] using ng, by simp [T.get, q]⟩
  | succ t ih =>
    intro L u x H ht hl hu hc ng
    obtain ⟨a1, a2, a3, a4⟩ := nxW_ok hc
    have hw : wlk M j (t + 1) u = (nxW M j t u : Int) :: wlk M j t (nxW M j t u) := rfl
    obtain ⟨q0, rfl, gq⟩ := ng.l.sl (by simp)
    have hlen : (gs (L ++ [(u : Int)])).length = L.length + 1 := by simp
    rw [hlen] at ng gq
    obtain ⟨x1, e, h2, q1, q2, ng2, _⟩ := ng.app H.size (nxW M j t u : Int) (by simp; omega)
    have ih' := ih (L ++ [(u : Int)]) (nxW M j t u) x1 h2 (by omega) (by simp; omega) a1 a3 ng2
    rw [hw]
    have l3 := c66_l3_ok (M := M) (F := F) (k := k) (t := t) J (ng.k.at gm (by simp) id) (ng.k.at gc (by simp) id) gq (gs_last rfl) (by omega) hk (by omega) hN hu h8.2 a1 a2 (by rw [hF t _ (by omega) (by omega)]; exact a3) (fun z hz => by rw [hF t z (by omega) (by omega)]; exact a4 z hz) q1 q2 (nxW M j t u) 0 (by omega)
    have gm' := ng.k.at gm (by simp) id
    have e0 : (matC M)[0]? = some (G M.length) := rfl
    have e0' := getI e0
    have l1 := matC_len M
    refine Tr.next (R := (fun s h => h = h2 ∧ s.get [true, false] = .ptr bm 0 65 ∧ s.get [false, true, false] = .slice bc 0 (k + 1) N ∧ s.get [false, true, true] = x1 ∧ s.get [true, true, true] = G ((t : Int) - 1))) ?_ (Tr.post (fun s h q => by simpa using q) ih')
    generalize nxW M j t u = w at *
    generalize matC M = cm at *
    generalize M.length = n at *
    refine Tr.w fun s1 H1 hp R kR => W.trim ?_
    obtain ⟨rfl, q⟩ := hp
    refine W.assoc ?_
    refine W.seq (W.chunk ?_)
    simp (disch := first | omega | exact getEq rfl | exact getO0 | exact Nat.le_of_ble_eq_true rfl) [c66_o19, came_some, goI, List.getElem?_cons_zero, List.getElem?_cons_succ, kn, keep, app_growP, app_noneP, plus_N, plus_at0, put_plus0, upd_N, upd_size, putAt, AV.cells, fillA, loadA, takeA, mk, Eff.isAll, Eff.isNone, Eff.commutes, Eff.spares, okPair, apart, eqAgg, fits, LK.fits, allEq, aveq, eqk, mmA, beqT, wrapI, idxI, tdivI, tmodI, decT, decF, ibT, ibF, inT, inF, evScope_c, if_pos, if_neg, Cm_some, put_plus1, thenW_n, thenW_e, thenW_r, blkW_n, blkW_e, blkW_r, if_true, q, gm', e0, e0', l1]
    refine W.seq (W.chunk ?_)
    simp (disch := first | omega | exact getEq rfl | exact getO0 | exact Nat.le_of_ble_eq_true rfl) [came_some, goI, List.getElem?_cons_zero, List.getElem?_cons_succ, kn, keep, app_growP, app_noneP, plus_N, plus_at0, put_plus0, upd_N, upd_size, putAt, AV.cells, fillA, loadA, takeA, mk, Eff.isAll, Eff.isNone, Eff.commutes, Eff.spares, okPair, apart, eqAgg, fits, LK.fits, allEq, aveq, eqk, mmA, beqT, wrapI, idxI, tdivI, tmodI, decT, decF, ibT, ibF, inT, inF, evScope_c, if_pos, if_neg, Cm_some, put_plus1, thenW_n, thenW_e, thenW_r, blkW_n, blkW_e, blkW_r, if_true, q, gm', e0, e0', l1]
    refine W.seq (W.block ?_)
    refine W.seq (W.chunk ?_)
    simp (disch := first | omega | exact getEq rfl | exact getO0 | exact Nat.le_of_ble_eq_true rfl) [c66_o20, came_some, goI, List.getElem?_cons_zero, List.getElem?_cons_succ, kn, keep, app_growP, app_noneP, plus_N, plus_at0, put_plus0, upd_N, upd_size, putAt, AV.cells, fillA, loadA, takeA, mk, Eff.isAll, Eff.isNone, Eff.commutes, Eff.spares, okPair, apart, eqAgg, fits, LK.fits, allEq, aveq, eqk, mmA, beqT, wrapI, idxI, tdivI, tmodI, decT, decF, ibT, ibF, inT, inF, evScope_c, if_pos, if_neg, Cm_some, put_plus1, thenW_n, thenW_e, thenW_r, blkW_n, blkW_e, blkW_r, if_true, q, gm', e0, e0', l1]
    refine W.block ?_
    refine W.use (l3) (by simp (disch := first | omega | exact getEq rfl | exact getO0 | exact Nat.le_of_ble_eq_true rfl) [came_some, goI, List.getElem?_cons_zero, List.getElem?_cons_succ, kn, keep, app_growP, app_noneP, plus_N, plus_at0, put_plus0, upd_N, upd_size, putAt, AV.cells, fillA, loadA, takeA, mk, Eff.isAll, Eff.isNone, Eff.commutes, Eff.spares, okPair, apart, eqAgg, fits, LK.fits, allEq, aveq, eqk, mmA, beqT, wrapI, idxI, tdivI, tmodI, decT, decF, ibT, ibF, inT, inF, evScope_c, if_pos, if_neg, Cm_some, put_plus1, thenW_n, thenW_e, thenW_r, blkW_n, blkW_e, blkW_r, if_true, q, gm', e0, e0', l1]) fun s1 H1 hp => ?_
    obtain ⟨rfl, q⟩ := hp
    try simp only [thenW_n, thenW_e, thenW_r, blkW_n, blkW_e, blkW_r, if_true]
    refine W.chunk ?_
    simp (disch := first | omega | exact getEq rfl | exact getO0 | exact Nat.le_of_ble_eq_true rfl) [c66_o26, came_some, goI, List.getElem?_cons_zero, List.getElem?_cons_succ, kn, keep, app_growP, app_noneP, plus_N, plus_at0, put_plus0, upd_N, upd_size, putAt, AV.cells, fillA, loadA, takeA, mk, Eff.isAll, Eff.isNone, Eff.commutes, Eff.spares, okPair, apart, eqAgg, fits, LK.fits, allEq, aveq, eqk, mmA, beqT, wrapI, idxI, tdivI, tmodI, decT, decF, ibT, ibF, inT, inF, evScope_c, if_pos, if_neg, Cm_some, put_plus1, thenW_n, thenW_e, thenW_r, blkW_n, blkW_e, blkW_r, if_true, q, gm', e0, e0', l1]
    exact kR _ _ (by simp [T.get, q])
theorem c66_ok (J : CallF) (hJ : ∀ a h, J 66 a h = none) (h : Heap) (hm : isMat M = true) {i j k : Nat} (hi : i < M.length) (hj : j < M.length) (hk : k ≤ 100) : ∃ v own, CallsTo tbl J 66 [.agg (matC M), G i, G j, G k] h (v, own, false) ∧ (cw M j k i = false → v = .nils ∧ own = []) ∧ (cw M j k i = true → NG h (h.plus own) v ((i : Int) :: wlk M j k i)) := by
  refine Tr.fny (cf := c66) (e := .ret) (s := T.set (T.set (T.set (T.set .leaf [] (.agg (matC M))) [false] (G i)) [true] (G j)) [false, false] (G k)) (by decide) rfl (hJ _ _) rfl rfl (by simp) ?_
  have h8 := isMat_n hm
  have l1 := matC_len M
  have rb := repl_bls (k + 1)
  have mk8 := fun H => mkSlG_ok H 8 8 [AV.bool false, .bool false, .bool false, .bool false, .bool false, .bool false, .bool false, .bool false] (k + 1) ((k : Int) + 1) (by omega) (by omega) rfl
  rw [rb] at mk8
  have lz := bls_len (fun _ => false) ((k + 1) * 8)
  have es : (bls (fun _ => false) ((k + 1) * 8)).set j (.bool true) = bls (cF M j (0 + 1) 0 0) ((k + 1) * 8) := by
    rw [bls_set _ _ _ _ (by omega)]
    apply bls_ext
    intro x hx
    rw [show cF M j (0 + 1) 0 0 = cF M j 1 0 0 from rfl, cF_1]
    show _ = decide (x = j ∧ x < 8)
    by_cases e : x = j
    · rw [if_pos e, decide_eq_true (by omega)]
    · rw [if_neg e, decide_eq_false (by omega)]
  have lo := c66_s (M := M) (i := i) (j := j) J h hm hk
  have cat : cF M j (k + 1) 0 0 (k * 8 + i) = cw M j k i := cF_lt (by omega) (by omega)
  have ec := bls_getN (cF M j (k + 1) 0 0) (N := (k + 1) * 8) (i := k * 8 + i) (by omega) cat
  have ec' := getI ec
  refine Tr.w fun s1 H1 hp R kR => ?_
  obtain ⟨rfl, rfl⟩ := hp
  have q : True := trivial
  by_cases c : cw M j k i = true
  · rw [c] at ec ec'
    refine W.seq (W.chunk ?_)
    simp (disch := first | omega | exact getEq rfl | exact getO0 | exact Nat.le_of_ble_eq_true rfl) [c66_o0, came_some, goI, List.getElem?_cons_zero, List.getElem?_cons_succ, kn, keep, frameOf, size_mk, get_mk_lt, get_mk_ge, Eff.app, Heap.setOwn, putAt, AV.cells, fillA, loadA, takeA, mk, Eff.isAll, Eff.isNone, Eff.commutes, Eff.spares, okPair, apart, eqAgg, fits, LK.fits, allEq, aveq, eqk, mmA, beqT, wrapI, idxI, tdivI, tmodI, decT, decF, ibT, ibF, inT, inF, evScope_c, if_pos, if_neg, Cm_some, put_plus1, thenW_n, thenW_e, thenW_r, blkW_n, blkW_e, blkW_r, if_true, q, l1, frameOf]
    refine W.seq (W.chunk ?_)
    simp (disch := first | omega | exact getEq rfl | exact getO0 | exact Nat.le_of_ble_eq_true rfl) [-act, c66_o1, came_some, goI, List.getElem?_cons_zero, List.getElem?_cons_succ, kn, keep, frameOf, size_mk, get_mk_lt, get_mk_ge, Eff.app, Heap.setOwn, putAt, AV.cells, fillA, loadA, takeA, mk, Eff.isAll, Eff.isNone, Eff.commutes, Eff.spares, okPair, apart, eqAgg, fits, LK.fits, allEq, aveq, eqk, mmA, beqT, wrapI, idxI, tdivI, tmodI, decT, decF, ibT, ibF, inT, inF, evScope_c, if_pos, if_neg, Cm_some, put_plus1, thenW_n, thenW_e, thenW_r, blkW_n, blkW_e, blkW_r, if_true, q, act_move, act_bin, act_mkG, mk8]
    refine W.seq (W.chunk ?_)
    simp (disch := first | omega | exact getEq rfl | exact getO0 | exact Nat.le_of_ble_eq_true rfl) [c66_o2, came_some, goI, List.getElem?_cons_zero, List.getElem?_cons_succ, kn, keep, frameOf, size_mk, get_mk_lt, get_mk_ge, Eff.app, Heap.setOwn, putAt, AV.cells, fillA, loadA, takeA, mk, Eff.isAll, Eff.isNone, Eff.commutes, Eff.spares, okPair, apart, eqAgg, fits, LK.fits, allEq, aveq, eqk, mmA, beqT, wrapI, idxI, tdivI, tmodI, decT, decF, ibT, ibF, inT, inF, evScope_c, if_pos, if_neg, Cm_some, put_plus1, thenW_n, thenW_e, thenW_r, blkW_n, blkW_e, blkW_r, if_true, q, lz, es]
    refine W.assoc ?_
    refine W.seq (W.chunk ?_)
    simp (disch := first | omega | exact getEq rfl | exact getO0 | exact Nat.le_of_ble_eq_true rfl) [c66_o3, came_some, goI, List.getElem?_cons_zero, List.getElem?_cons_succ, kn, keep, frameOf, size_mk, get_mk_lt, get_mk_ge, Eff.app, Heap.setOwn, putAt, AV.cells, fillA, loadA, takeA, mk, Eff.isAll, Eff.isNone, Eff.commutes, Eff.spares, okPair, apart, eqAgg, fits, LK.fits, allEq, aveq, eqk, mmA, beqT, wrapI, idxI, tdivI, tmodI, decT, decF, ibT, ibF, inT, inF, evScope_c, if_pos, if_neg, Cm_some, put_plus1, thenW_n, thenW_e, thenW_r, blkW_n, blkW_e, blkW_r, if_true, q]
    refine W.seq (W.block ?_)
    refine W.use (lo) (by simp (disch := first | omega | exact getEq rfl | exact getO0 | exact Nat.le_of_ble_eq_true rfl) [came_some, goI, List.getElem?_cons_zero, List.getElem?_cons_succ, kn, keep, frameOf, size_mk, get_mk_lt, get_mk_ge, Eff.app, Heap.setOwn, putAt, AV.cells, fillA, loadA, takeA, mk, Eff.isAll, Eff.isNone, Eff.commutes, Eff.spares, okPair, apart, eqAgg, fits, LK.fits, allEq, aveq, eqk, mmA, beqT, wrapI, idxI, tdivI, tmodI, decT, decF, ibT, ibF, inT, inF, evScope_c, if_pos, if_neg, Cm_some, put_plus1, thenW_n, thenW_e, thenW_r, blkW_n, blkW_e, blkW_r, if_true, q, HW]) fun s1 H1 hp => ?_
    obtain ⟨rfl, q⟩ := hp
    try simp only [thenW_n, thenW_e, thenW_r, blkW_n, blkW_e, blkW_r, if_true]
    refine W.assoc ?_
    simp only [HW] at *
    have ll := bls_len (cF M j (k + 1) 0 0) ((k + 1) * 8)
    refine W.seq (W.chunk ?_)
    simp (disch := first | omega | exact getEq rfl | exact getO0 | exact Nat.le_of_ble_eq_true rfl) [c66_o15, came_some, goI, List.getElem?_cons_zero, List.getElem?_cons_succ, kn, keep, frameOf, size_mk, get_mk_lt, get_mk_ge, Eff.app, Heap.setOwn, putAt, AV.cells, fillA, loadA, takeA, mk, Eff.isAll, Eff.isNone, Eff.commutes, Eff.spares, okPair, apart, eqAgg, fits, LK.fits, allEq, aveq, eqk, mmA, beqT, wrapI, idxI, tdivI, tmodI, decT, decF, ibT, ibF, inT, inF, evScope_c, if_pos, if_neg, Cm_some, put_plus1, thenW_n, thenW_e, thenW_r, blkW_n, blkW_e, blkW_r, if_true, q, ec, ec', ll]
    refine W.seq (W.chunk ?_)
    simp (disch := first | omega | exact getEq rfl | exact getO0 | exact Nat.le_of_ble_eq_true rfl) [c66_o16, came_some, goI, List.getElem?_cons_zero, List.getElem?_cons_succ, kn, keep, frameOf, size_mk, get_mk_lt, get_mk_ge, Eff.app, Heap.setOwn, putAt, AV.cells, fillA, loadA, takeA, mk, Eff.isAll, Eff.isNone, Eff.commutes, Eff.spares, okPair, apart, eqAgg, fits, LK.fits, allEq, aveq, eqk, mmA, beqT, wrapI, idxI, tdivI, tmodI, decT, decF, ibT, ibF, inT, inF, evScope_c, if_pos, if_neg, Cm_some, put_plus1, thenW_n, thenW_e, thenW_r, blkW_n, blkW_e, blkW_r, if_true, q]
    have gm : Heap.get ⟨h.get, h.size, [.cells 0 65 (matC M), .cells 8 ((k + 1) * 8) (bls (cF M j (k + 1) 0 0) ((k + 1) * 8))]⟩ h.size = .cells 0 65 (matC M) := by rw [get_mk_ge _ _ _ _ (by omega)]; simp
    have gc : Heap.get ⟨h.get, h.size, [.cells 0 65 (matC M), .cells 8 ((k + 1) * 8) (bls (cF M j (k + 1) 0 0) ((k + 1) * 8))]⟩ (h.size + 1) = .cells 8 ((k + 1) * 8) (bls (cF M j (k + 1) 0 0) ((k + 1) * 8)) := by rw [get_mk_ge _ _ _ _ (by omega)]; simp
    have ng0 : NG ⟨h.get, h.size, [.cells 0 65 (matC M), .cells 8 ((k + 1) * 8) (bls (cF M j (k + 1) 0 0) ((k + 1) * 8))]⟩ ⟨h.get, h.size, [.cells 0 65 (matC M), .cells 8 ((k + 1) * 8) (bls (cF M j (k + 1) 0 0) ((k + 1) * 8)), .cells 1 1 [G i]]⟩ (.slice (h.size + 2) 0 1 1) ([] ++ [(i : Int)]) := ⟨Kp.plus ⟨h.get, h.size, [.cells 0 65 (matC M), .cells 8 ((k + 1) * 8) (bls (cF M j (k + 1) 0 0) ((k + 1) * 8))]⟩ [.cells 1 1 [G i]], fun q hq => by cases hq; simp [Heap.size], .inr ⟨h.size + 2, by simp, by rw [get_mk_ge _ _ _ _ (by omega)]; simp, by show h.size ≤ h.size + 2; omega⟩⟩
    have l4 := c66_l4_ok J hm gm gc hk rfl (fun t z a b => cF_lt b (by omega)) k [] i (.slice (h.size + 2) 0 1 1) _ (Nat.le_refl _) (by simp) hi c ng0
    refine W.seq (W.chunk ?_)
    simp (disch := first | omega | exact getEq rfl | exact getO0 | exact Nat.le_of_ble_eq_true rfl) [c66_o17, came_some, goI, List.getElem?_cons_zero, List.getElem?_cons_succ, kn, keep, frameOf, size_mk, get_mk_lt, get_mk_ge, Eff.app, Heap.setOwn, putAt, AV.cells, fillA, loadA, takeA, mk, Eff.isAll, Eff.isNone, Eff.commutes, Eff.spares, okPair, apart, eqAgg, fits, LK.fits, allEq, aveq, eqk, mmA, beqT, wrapI, idxI, tdivI, tmodI, decT, decF, ibT, ibF, inT, inF, evScope_c, if_pos, if_neg, Cm_some, put_plus1, thenW_n, thenW_e, thenW_r, blkW_n, blkW_e, blkW_r, if_true, q]
    refine W.assoc ?_
    refine W.seq (W.chunk ?_)
    simp (disch := first | omega | exact getEq rfl | exact getO0 | exact Nat.le_of_ble_eq_true rfl) [c66_o18, came_some, goI, List.getElem?_cons_zero, List.getElem?_cons_succ, kn, keep, frameOf, size_mk, get_mk_lt, get_mk_ge, Eff.app, Heap.setOwn, putAt, AV.cells, fillA, loadA, takeA, mk, Eff.isAll, Eff.isNone, Eff.commutes, Eff.spares, okPair, apart, eqAgg, fits, LK.fits, allEq, aveq, eqk, mmA, beqT, wrapI, idxI, tdivI, tmodI, decT, decF, ibT, ibF, inT, inF, evScope_c, if_pos, if_neg, Cm_some, put_plus1, thenW_n, thenW_e, thenW_r, blkW_n, blkW_e, blkW_r, if_true, q]
    refine W.seq (W.block ?_)
    refine W.use (l4) (by simp (disch := first | omega | exact getEq rfl | exact getO0 | exact Nat.le_of_ble_eq_true rfl) [came_some, goI, List.getElem?_cons_zero, List.getElem?_cons_succ, kn, keep, frameOf, size_mk, get_mk_lt, get_mk_ge, Eff.app, Heap.setOwn, putAt, AV.cells, fillA, loadA, takeA, mk, Eff.isAll, Eff.isNone, Eff.commutes, Eff.spares, okPair, apart, eqAgg, fits, LK.fits, allEq, aveq, eqk, mmA, beqT, wrapI, idxI, tdivI, tmodI, decT, decF, ibT, ibF, inT, inF, evScope_c, if_pos, if_neg, Cm_some, put_plus1, thenW_n, thenW_e, thenW_r, blkW_n, blkW_e, blkW_r, if_true, q]) fun s1 H1 hp => ?_
    obtain ⟨x, ng, q⟩ := hp
    try simp only [thenW_n, thenW_e, thenW_r, blkW_n, blkW_e, blkW_r, if_true]
    refine W.seq (W.chunk ?_)
    simp (disch := first | omega | exact getEq rfl | exact getO0 | exact Nat.le_of_ble_eq_true rfl) [c66_o27, came_some, goI, List.getElem?_cons_zero, List.getElem?_cons_succ, kn, keep, frameOf, size_mk, get_mk_lt, get_mk_ge, Eff.app, Heap.setOwn, putAt, AV.cells, fillA, loadA, takeA, mk, Eff.isAll, Eff.isNone, Eff.commutes, Eff.spares, okPair, apart, eqAgg, fits, LK.fits, allEq, aveq, eqk, mmA, beqT, wrapI, idxI, tdivI, tmodI, decT, decF, ibT, ibF, inT, inF, evScope_c, if_pos, if_neg, Cm_some, put_plus1, thenW_n, thenW_e, thenW_r, blkW_n, blkW_e, blkW_r, if_true, q]
    refine W.ret ?_
    try simp only [thenW_n, thenW_e, thenW_r, blkW_n, blkW_e, blkW_r, if_true]
    have kk : Kp (fun _ => False) (frameOf h) ⟨h.get, h.size, [.cells 0 65 (matC M), .cells 8 ((k + 1) * 8) (bls (cF M j (k + 1) 0 0) ((k + 1) * 8))]⟩ := Kp.plus (frameOf h) [.cells 0 65 (matC M), .cells 8 ((k + 1) * 8) (bls (cF M j (k + 1) 0 0) ((k + 1) * 8))]
    have ng' : NG (frameOf h) H1 x ((i : Int) :: wlk M j k i) := ⟨kk.trans ng.k, fun q hq => by have := ng.x0 q hq; have := kk.size; omega, ng.l⟩
    exact kR _ _ ⟨[x], by simp [T.get, c66, evRess, evRes, q], ⟨fun e => absurd (c.symm.trans e) (by simp), fun _ => ng'.fr0⟩⟩
  · have c' : cw M j k i = false := by simpa using c
    rw [c'] at ec ec'
    refine W.seq (W.chunk ?_)
    simp (disch := first | omega | exact getEq rfl | exact getO0 | exact Nat.le_of_ble_eq_true rfl) [c66_o0, came_some, goI, List.getElem?_cons_zero, List.getElem?_cons_succ, kn, keep, frameOf, size_mk, get_mk_lt, get_mk_ge, Eff.app, Heap.setOwn, putAt, AV.cells, fillA, loadA, takeA, mk, Eff.isAll, Eff.isNone, Eff.commutes, Eff.spares, okPair, apart, eqAgg, fits, LK.fits, allEq, aveq, eqk, mmA, beqT, wrapI, idxI, tdivI, tmodI, decT, decF, ibT, ibF, inT, inF, evScope_c, if_pos, if_neg, Cm_some, put_plus1, thenW_n, thenW_e, thenW_r, blkW_n, blkW_e, blkW_r, if_true, q, l1, frameOf]
    refine W.seq (W.chunk ?_)
    simp (disch := first | omega | exact getEq rfl | exact getO0 | exact Nat.le_of_ble_eq_true rfl) [-act, c66_o1, came_some, goI, List.getElem?_cons_zero, List.getElem?_cons_succ, kn, keep, frameOf, size_mk, get_mk_lt, get_mk_ge, Eff.app, Heap.setOwn, putAt, AV.cells, fillA, loadA, takeA, mk, Eff.isAll, Eff.isNone, Eff.commutes, Eff.spares, okPair, apart, eqAgg, fits, LK.fits, allEq, aveq, eqk, mmA, beqT, wrapI, idxI, tdivI, tmodI, decT, decF, ibT, ibF, inT, inF, evScope_c, if_pos, if_neg, Cm_some, put_plus1, thenW_n, thenW_e, thenW_r, blkW_n, blkW_e, blkW_r, if_true, q, act_move, act_bin, act_mkG, mk8]
    refine W.seq (W.chunk ?_)
    simp (disch := first | omega | exact getEq rfl | exact getO0 | exact Nat.le_of_ble_eq_true rfl) [c66_o2, came_some, goI, List.getElem?_cons_zero, List.getElem?_cons_succ, kn, keep, frameOf, size_mk, get_mk_lt, get_mk_ge, Eff.app, Heap.setOwn, putAt, AV.cells, fillA, loadA, takeA, mk, Eff.isAll, Eff.isNone, Eff.commutes, Eff.spares, okPair, apart, eqAgg, fits, LK.fits, allEq, aveq, eqk, mmA, beqT, wrapI, idxI, tdivI, tmodI, decT, decF, ibT, ibF, inT, inF, evScope_c, if_pos, if_neg, Cm_some, put_plus1, thenW_n, thenW_e, thenW_r, blkW_n, blkW_e, blkW_r, if_true, q, lz, es]
    refine W.assoc ?_
    refine W.seq (W.chunk ?_)
    simp (disch := first | omega | exact getEq rfl | exact getO0 | exact Nat.le_of_ble_eq_true rfl) [c66_o3, came_some, goI, List.getElem?_cons_zero, List.getElem?_cons_succ, kn, keep, frameOf, size_mk, get_mk_lt, get_mk_ge, Eff.app, Heap.setOwn, putAt, AV.cells, fillA, loadA, takeA, mk, Eff.isAll, Eff.isNone, Eff.commutes, Eff.spares, okPair, apart, eqAgg, fits, LK.fits, allEq, aveq, eqk, mmA, beqT, wrapI, idxI, tdivI, tmodI, decT, decF, ibT, ibF, inT, inF, evScope_c, if_pos, if_neg, Cm_some, put_plus1, thenW_n, thenW_e, thenW_r, blkW_n, blkW_e, blkW_r, if_true, q]
    refine W.seq (W.block ?_)
    refine W.use (lo) (by simp (disch := first | omega | exact getEq rfl | exact getO0 | exact Nat.le_of_ble_eq_true rfl) [came_some, goI, List.getElem?_cons_zero, List.getElem?_cons_succ, kn, keep, frameOf, size_mk, get_mk_lt, get_mk_ge, Eff.app, Heap.setOwn, putAt, AV.cells, fillA, loadA, takeA, mk, Eff.isAll, Eff.isNone, Eff.commutes, Eff.spares, okPair, apart, eqAgg, fits, LK.fits, allEq, aveq, eqk, mmA, beqT, wrapI, idxI, tdivI, tmodI, decT, decF, ibT, ibF, inT, inF, evScope_c, if_pos, if_neg, Cm_some, put_plus1, thenW_n, thenW_e, thenW_r, blkW_n, blkW_e, blkW_r, if_true, q, HW]) fun s1 H1 hp => ?_
    obtain ⟨rfl, q⟩ := hp
    try simp only [thenW_n, thenW_e, thenW_r, blkW_n, blkW_e, blkW_r, if_true]
    refine W.assoc ?_
    simp only [HW] at *
    have ll := bls_len (cF M j (k + 1) 0 0) ((k + 1) * 8)
    refine W.seq (W.chunk ?_)
    simp (disch := first | omega | exact getEq rfl | exact getO0 | exact Nat.le_of_ble_eq_true rfl) [c66_o15, came_some, goI, List.getElem?_cons_zero, List.getElem?_cons_succ, kn, keep, frameOf, size_mk, get_mk_lt, get_mk_ge, Eff.app, Heap.setOwn, putAt, AV.cells, fillA, loadA, takeA, mk, Eff.isAll, Eff.isNone, Eff.commutes, Eff.spares, okPair, apart, eqAgg, fits, LK.fits, allEq, aveq, eqk, mmA, beqT, wrapI, idxI, tdivI, tmodI, decT, decF, ibT, ibF, inT, inF, evScope_c, if_pos, if_neg, Cm_some, put_plus1, thenW_n, thenW_e, thenW_r, blkW_n, blkW_e, blkW_r, if_true, q, ec, ec', ll]
    refine W.seq (W.chunk ?_)
    simp (disch := first | omega | exact getEq rfl | exact getO0 | exact Nat.le_of_ble_eq_true rfl) [c66_o16, came_some, goI, List.getElem?_cons_zero, List.getElem?_cons_succ, kn, keep, frameOf, size_mk, get_mk_lt, get_mk_ge, Eff.app, Heap.setOwn, putAt, AV.cells, fillA, loadA, takeA, mk, Eff.isAll, Eff.isNone, Eff.commutes, Eff.spares, okPair, apart, eqAgg, fits, LK.fits, allEq, aveq, eqk, mmA, beqT, wrapI, idxI, tdivI, tmodI, decT, decF, ibT, ibF, inT, inF, evScope_c, if_pos, if_neg, Cm_some, put_plus1, thenW_n, thenW_e, thenW_r, blkW_n, blkW_e, blkW_r, if_true, q]
    exact kR _ _ ⟨[.nils], by simp [T.get, c66, evRess, evRes], ⟨fun _ => (by simp [one, AV.flat]), fun e => absurd (c'.symm.trans e) (by simp)⟩⟩
end

/-! ### What is known -/
structure A66 where
  M : List (List Int)
  i : Nat
  j : Nat
  k : Nat
def Pre66 (a : A66) (args : List AV) (h : Heap) : Prop := (isMat a.M = true ∧ a.i < a.M.length ∧ a.j < a.M.length ∧ a.k ≤ 100) ∧ args = [.agg (matC a.M), G a.i, G a.j, G a.k]
def Post66 (a : A66) (h : Heap) (v : AV) (own : List AObj) : Prop := (cw a.M a.j a.k a.i = false → v = .nils ∧ own = []) ∧ (cw a.M a.j a.k a.i = true → NG h (h.plus own) v ((a.i : Int) :: wlk a.M a.j a.k a.i))
noncomputable def T7 : CallF := addK tbl T6 66 Pre66 Post66
theorem t7 : Sound Go.Proofs.Try.prog T7 := Sound.addK follows ok t6 (by decide) _ _
abbrev K66 (J : CallF) : Prop := ∀ (h : Heap) (a : A66), (isMat a.M = true ∧ a.i < a.M.length ∧ a.j < a.M.length ∧ a.k ≤ 100) → ∃ w own, J 66 [.agg (matC a.M), G a.i, G a.j, G a.k] h = some (w, own, false) ∧ Post66 a h w own
theorem k66 : K66 T7 := fun h a ha => addK_some (Pre := Pre66) (Post := Post66) (fun a args h hp => by
  obtain ⟨⟨hm, hi, hj, hk⟩, rfl⟩ := hp
  exact c66_ok T6 (fun _ _ => by simp (disch := decide) only [T6, T5, T4, T3, T2, T1, R21, R20, R19, R18, R17, R16, R15, R14, R13, R12, R11, R10, R9, R8, R7, R6, R5, R4, R3, R2, R1, addI_ne, addX_ne, addV_ne, addK_ne]; rfl) h hm hi hj hk) a _ h ⟨ha, rfl⟩

end Go.Proofs.Ytjeemgaoonapgaa.Ev
