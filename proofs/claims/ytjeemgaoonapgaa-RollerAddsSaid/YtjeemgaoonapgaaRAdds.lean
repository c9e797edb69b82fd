/-
  RollerAdds answers true at any int, matrix and pair, as the evaluator runs it. No condition.
-/
import Derived.Test.YtjeemgaoonapgaaRPow6
set_option linter.unusedVariables false
set_option linter.unusedSimpArgs false
namespace Go.Proofs.Ytjeemgaoonapgaa.Ev
open Go Go.AEv

attribute [local simp] evFunc initS evOps_c evTrim_c evSkip_c evExit_c evRet_c evSeq_c evCond_c evBlock_c evDraw_c runOps_n runOps_c exec_n exec_g pure1_c act AOpd.ev T.get T.set T.put evBin evUn forceT_eq forceV_eq forceL_eq evRess evRes one keep runFP_n runFP_c app_none AV.flats AV.flat

/-! ### The plain law -/
section
variable {M : List (List Int)}
/-- Powers of small exponents are small. -/
theorem dt_le (hm : isMat M = true) {X : Nat → Int} {B : Int} (hB : 0 ≤ B) (hX : ∀ x, 0 ≤ X x ∧ X x ≤ B) (i j : Nat) : ∀ k : Nat, dt M X i j k ≤ k * (B * 9)
  | 0 => by simp [dt]
  | k + 1 => by
    have a := dt_le hm hB hX i j k
    have e := ent_bd hm k j
    have b : X (i * 8 + k) * ent M k j ≤ B * 9 := Int.mul_le_mul (hX _).2 e.2 e.1 hB
    show dt M X i j k + X (i * 8 + k) * ent M k j ≤ ((k + 1 : Nat) : Int) * (B * 9)
    rw [Int.natCast_add, Int.add_mul]
    show _ ≤ (k : Int) * (B * 9) + 1 * (B * 9)
    rw [Int.one_mul]
    omega
theorem pwX_le (hm : isMat M = true) : ∀ k x, 0 ≤ pwX M k x ∧ pwX M k x ≤ (72 : Int) ^ k
  | 0, x => by
    show 0 ≤ onF M.length x ∧ onF M.length x ≤ 1
    unfold onF
    split <;> decide
  | k + 1, x => by
    have ih := pwX_le hm k
    have h8 := isMat_n hm
    have hB : (0 : Int) ≤ 72 ^ k := Int.le_trans (ih 0).1 (ih 0).2
    show 0 ≤ prF M (pwX M k) x ∧ prF M (pwX M k) x ≤ 72 ^ (k + 1)
    have hp : (72 : Int) ^ (k + 1) = 72 ^ k * 72 := Int.pow_succ _ _
    unfold prF
    by_cases c : x / 8 < M.length
    · rw [if_pos c]
      refine ⟨dt_nn hm (fun x => (ih x).1) _ _ _, ?_⟩
      have a := dt_le hm hB ih (x / 8) (x % 8) M.length
      have b : (M.length : Int) * ((72 : Int) ^ k * 9) ≤ 8 * ((72 : Int) ^ k * 9) := Int.mul_le_mul_of_nonneg_right (by omega) (by omega)
      rw [hp]
      generalize (72 : Int) ^ k = B at *
      omega
    · rw [if_neg c]
      exact ⟨Int.le_refl _, by rw [hp]; omega⟩
theorem okP_small (hm : isMat M = true) {k : Nat} (hk : k ≤ 9) : okP M k := fun m hmk i _ hi j _ hj => by
  have h8 := isMat_n hm
  have := (pwX_le hm (m + 1) (i * 8 + j)).2
  have e : pwX M (m + 1) (i * 8 + j) = dt M (pwX M m) i j M.length := by
    show prF M (pwX M m) (i * 8 + j) = _
    unfold prF
    rw [show (i * 8 + j) / 8 = i by omega, show (i * 8 + j) % 8 = j by omega, if_pos hi]
  rw [e] at this
  have : m = 0 ∨ m = 1 ∨ m = 2 ∨ m = 3 ∨ m = 4 ∨ m = 5 ∨ m = 6 ∨ m = 7 ∨ m = 8 := by omega
  rcases this with rfl | rfl | rfl | rfl | rfl | rfl | rfl | rfl | rfl <;> (have h := ‹dt _ _ _ _ _ ≤ _›; exact Int.le_trans h (by decide))
def sm (f : Nat → Int) : Nat → Int
  | 0 => 0
  | k + 1 => sm f k + f k
theorem sm_congr {f g : Nat → Int} : ∀ {n}, (∀ k, k < n → f k = g k) → sm f n = sm g n
  | 0, _ => rfl
  | n + 1, h => by
    show sm f n + f n = sm g n + g n
    rw [sm_congr (fun k hk => h k (by omega)), h n (by omega)]
theorem sm_add (f g : Nat → Int) : ∀ n, sm (fun k => f k + g k) n = sm f n + sm g n
  | 0 => rfl
  | n + 1 => by
    show sm _ n + (f n + g n) = (sm f n + f n) + (sm g n + g n)
    rw [sm_add f g n]; omega
theorem sm_mul (c : Int) (f : Nat → Int) : ∀ n, sm (fun k => c * f k) n = c * sm f n
  | 0 => by simp [sm]
  | n + 1 => by
    show sm _ n + c * f n = c * (sm f n + f n)
    rw [sm_mul c f n, Int.mul_add]
theorem sm_mulr (c : Int) (f : Nat → Int) (n : Nat) : sm (fun k => f k * c) n = sm f n * c := by
  rw [Int.mul_comm, ← sm_mul]
  exact sm_congr fun k _ => Int.mul_comm _ _
theorem sm_zero (n : Nat) : sm (fun _ => 0) n = 0 := by
  induction n with
  | zero => rfl
  | succ n ih => show sm _ n + 0 = 0; rw [ih]; rfl
theorem sm_swap (f : Nat → Nat → Int) (m : Nat) : ∀ n, sm (fun i => sm (fun j => f i j) m) n = sm (fun j => sm (fun i => f i j) n) m
  | 0 => (sm_zero m).symm
  | n + 1 => by
    show sm _ n + sm (fun j => f n j) m = sm (fun j => sm (fun i => f i j) n + f n j) m
    rw [sm_add, sm_swap f m n]
theorem sm_nn {f : Nat → Int} (h : ∀ k, 0 ≤ f k) : ∀ n, 0 ≤ sm f n
  | 0 => Int.le_refl _
  | n + 1 => by
    have a := sm_nn h n
    have b := h n
    show 0 ≤ sm f n + f n
    omega
theorem sm_mono {f : Nat → Int} (h : ∀ k, 0 ≤ f k) : ∀ d n, sm f n ≤ sm f (n + d)
  | 0, n => Int.le_refl _
  | d + 1, n => by
    have a := sm_mono h d n
    have b := h (n + d)
    show sm f n ≤ sm f (n + d) + f (n + d)
    omega
theorem sm_one {f : Nat → Int} {n k : Nat} (hk : k < n) (h : ∀ j, j < n → j ≠ k → f j = 0) : sm f n = f k := by
  induction n with
  | zero => omega
  | succ n ih =>
    show sm f n + f n = f k
    by_cases e : k = n
    · subst e
      have : sm f k = sm (fun _ => 0) k := sm_congr fun j hj => h j (by omega) (by omega)
      rw [this, sm_zero]; omega
    · rw [ih (by omega) (fun j hj hne => h j (by omega) hne), h n (by omega) (fun e' => e e'.symm)]; omega
theorem dt_sm (X : Nat → Int) (i j : Nat) : ∀ k, dt M X i j k = sm (fun k => X (i * 8 + k) * ent M k j) k
  | 0 => rfl
  | k + 1 => by
    show dt M X i j k + _ = sm _ k + _
    rw [dt_sm X i j k]
theorem pwX_s {k i j : Nat} (hi : i < M.length) (hj : j < 8) : pwX M (k + 1) (i * 8 + j) = sm (fun h => pwX M k (i * 8 + h) * ent M h j) M.length := by
  show prF M (pwX M k) (i * 8 + j) = _
  unfold prF
  rw [show (i * 8 + j) / 8 = i by omega, show (i * 8 + j) % 8 = j by omega, if_pos hi, dt_sm]
/-- Powers are multiplied by adding the exponents. -/
theorem pwX_add (hm : isMat M = true) (s : Nat) {i : Nat} (hi : i < M.length) : ∀ t {j : Nat}, j < M.length → pwX M (s + t) (i * 8 + j) = sm (fun k => pwX M s (i * 8 + k) * pwX M t (k * 8 + j)) M.length
  | 0, j, hj => by
    have h8 := isMat_n hm
    rw [sm_one hj (fun k hk hne => by
      show pwX M s (i * 8 + k) * onF M.length (k * 8 + j) = 0
      unfold onF
      rw [if_neg (by omega), Int.mul_zero])]
    show pwX M s (i * 8 + j) = pwX M s (i * 8 + j) * onF M.length (j * 8 + j)
    unfold onF
    rw [if_pos (by omega), Int.mul_one]
  | t + 1, j, hj => by
    have h8 := isMat_n hm
    rw [show s + (t + 1) = (s + t) + 1 by omega, pwX_s hi (by omega)]
    have e1 : sm (fun h => pwX M (s + t) (i * 8 + h) * ent M h j) M.length = sm (fun h => sm (fun k => (pwX M s (i * 8 + k) * pwX M t (k * 8 + h)) * ent M h j) M.length) M.length := sm_congr fun h hh => by
      rw [pwX_add hm s hi t hh, sm_mulr]
    rw [e1, sm_swap]
    refine sm_congr fun k hk => ?_
    rw [pwX_s hk (by omega), ← sm_mul]
    exact sm_congr fun h hh => Int.mul_assoc _ _ _
end

/-! ### Square tables -/
structure TT (H : Heap) (n : Nat) (X : Nat → Int) (q : Nat) (rs : List AV) : Prop where
  g : H.get q = .cells 1 n rs
  r : ∀ i, i < n → ∃ b, rs[i]? = some (.slice b 0 n n) ∧ H.get b = .cells 1 n (gs (rwL X n i))
theorem TT.kp {H H' : Heap} {n : Nat} {X : Nat → Int} {q : Nat} {rs : List AV} (t : TT H n X q rs) (k : Kp (fun _ => False) H H') : TT H' n X q rs :=
  ⟨k.at t.g (by simp) id, fun i hi => by obtain ⟨b, e1, e2⟩ := t.r i hi; exact ⟨b, e1, k.at e2 (by simp) id⟩⟩
theorem rwL_at (X : Nat → Int) {n i j : Nat} (hj : j < n) : (gs (rwL X n i))[j]? = some (G (X (i * 8 + j))) := by
  show (gs (lf (fun j => X (i * 8 + j)) n))[j]? = _
  rw [gl_at _ hj]
theorem TB.tt {H0 H : Heap} {x : AV} {M : List (List Int)} {k : Nat} (hm : isMat M = true) (tb : TB H0 H x ((pwL M k).map gs)) : ∃ q rs, x = .slice q 0 M.length M.length ∧ TT H M.length (pwX M k) q rs := by
  have h8 := isMat_n hm
  obtain ⟨q0, rs, e, gq, lq, hr⟩ := tb.sl (i := 0) (by rw [pwL_len]; omega)
  rw [pwL_len] at e gq
  refine ⟨q0, rs, e, gq, fun i hi => ?_⟩
  obtain ⟨b2, e1, e2⟩ := hr i _ (pwL_at k hi)
  have lr : (gs (rwL (pwX M k) M.length i)).length = M.length := by simp [rwL, lf_len]
  rw [lr] at e1 e2
  exact ⟨b2, e1, e2⟩

/-! ### The walk -/
section
variable {n : Nat} {A B C : Nat → Int} {qa qb qc : Nat} {ra rb rc : List AV} {H : Heap}
theorem a12_l0 (J : CallF) (ta : TT H n A qa ra) (tb : TT H n B qb rb) (tc : TT H n C qc rc) (h8 : n ≤ 8) : Tr tbl J c12_l0 (fun s h => h = H ∧ s.get [] = G n ∧ s.get [true, true, false] = .slice qa 0 n n ∧ s.get [true, false, true] = .slice qb 0 n n ∧ s.get [true, true, true] = .slice qc 0 n n ∧ s.get [true, false, false, false] = G ((0 : Nat) : Int)) (.exit 0) (fun s h => h = H ∧ s.get [] = G n ∧ s.get [true, true, false] = .slice qa 0 n n ∧ s.get [true, false, true] = .slice qb 0 n n ∧ s.get [true, true, true] = .slice qc 0 n n) := by
  refine Tr.rounds (P := fun i => (fun s h => h = H ∧ s.get [] = G n ∧ s.get [true, true, false] = .slice qa 0 n n ∧ s.get [true, false, true] = .slice qb 0 n n ∧ s.get [true, true, true] = .slice qc 0 n n ∧ s.get [true, false, false, false] = G i)) (M := n) (fun i hi => ?_) ?_ (by simp) 0 (by omega)
  · refine Tr.w fun s1 H1 hp R kR => W.trim ?_
    obtain ⟨rfl, q⟩ := hp
    obtain ⟨b1, e1, g1⟩ := ta.r i hi
    obtain ⟨b2, e2, g2⟩ := tb.r i hi
    obtain ⟨b3, e3, g3⟩ := tc.r i hi
    have ga := ta.g
    have gb := tb.g
    have gc := tc.g
    have e1' := getI e1
    have e2' := getI e2
    have e3' := getI e3
    refine W.assoc ?_
    refine W.seq (W.chunk ?_)
    simp (disch := first | omega | exact getEq rfl | exact getO0 | exact Nat.le_of_ble_eq_true rfl) [c12_o12, came_some, goI, List.getElem?_cons_zero, List.getElem?_cons_succ, kn, keep, app_growP, app_noneP, plus_N, plus_at0, put_plus0, upd_N, upd_size, putAt, AV.cells, fillA, loadA, takeA, mk, Eff.isAll, Eff.isNone, Eff.commutes, Eff.spares, okPair, apart, eqAgg, fits, LK.fits, allEq, aveq, eqk, mmA, beqT, wrapI, idxI, tdivI, tmodI, decT, decF, ibT, ibF, inT, inF, evScope_c, if_pos, if_neg, Cm_some, put_plus1, thenW_n, thenW_e, thenW_r, blkW_n, blkW_e, blkW_r, if_true, q]
    refine W.seq (W.chunk ?_)
    simp (disch := first | omega | exact getEq rfl | exact getO0 | exact Nat.le_of_ble_eq_true rfl) [came_some, goI, List.getElem?_cons_zero, List.getElem?_cons_succ, kn, keep, app_growP, app_noneP, plus_N, plus_at0, put_plus0, upd_N, upd_size, putAt, AV.cells, fillA, loadA, takeA, mk, Eff.isAll, Eff.isNone, Eff.commutes, Eff.spares, okPair, apart, eqAgg, fits, LK.fits, allEq, aveq, eqk, mmA, beqT, wrapI, idxI, tdivI, tmodI, decT, decF, ibT, ibF, inT, inF, evScope_c, if_pos, if_neg, Cm_some, put_plus1, thenW_n, thenW_e, thenW_r, blkW_n, blkW_e, blkW_r, if_true, q]
    refine W.seq (W.block ?_)
    refine W.seq (W.chunk ?_)
    simp (disch := first | omega | exact getEq rfl | exact getO0 | exact Nat.le_of_ble_eq_true rfl) [c12_o13, came_some, goI, List.getElem?_cons_zero, List.getElem?_cons_succ, kn, keep, app_growP, app_noneP, plus_N, plus_at0, put_plus0, upd_N, upd_size, putAt, AV.cells, fillA, loadA, takeA, mk, Eff.isAll, Eff.isNone, Eff.commutes, Eff.spares, okPair, apart, eqAgg, fits, LK.fits, allEq, aveq, eqk, mmA, beqT, wrapI, idxI, tdivI, tmodI, decT, decF, ibT, ibF, inT, inF, evScope_c, if_pos, if_neg, Cm_some, put_plus1, thenW_n, thenW_e, thenW_r, blkW_n, blkW_e, blkW_r, if_true, q, ga, gb, gc, e1, e1', e2, e2', e3, e3']
    refine W.chunk ?_
    simp (disch := first | omega | exact getEq rfl | exact getO0 | exact Nat.le_of_ble_eq_true rfl) [c12_o14, came_some, goI, List.getElem?_cons_zero, List.getElem?_cons_succ, kn, keep, app_growP, app_noneP, plus_N, plus_at0, put_plus0, upd_N, upd_size, putAt, AV.cells, fillA, loadA, takeA, mk, Eff.isAll, Eff.isNone, Eff.commutes, Eff.spares, okPair, apart, eqAgg, fits, LK.fits, allEq, aveq, eqk, mmA, beqT, wrapI, idxI, tdivI, tmodI, decT, decF, ibT, ibF, inT, inF, evScope_c, if_pos, if_neg, Cm_some, put_plus1, thenW_n, thenW_e, thenW_r, blkW_n, blkW_e, blkW_r, if_true, q]
    refine W.chunk ?_
    simp (disch := first | omega | exact getEq rfl | exact getO0 | exact Nat.le_of_ble_eq_true rfl) [c12_o15, came_some, goI, List.getElem?_cons_zero, List.getElem?_cons_succ, kn, keep, app_growP, app_noneP, plus_N, plus_at0, put_plus0, upd_N, upd_size, putAt, AV.cells, fillA, loadA, takeA, mk, Eff.isAll, Eff.isNone, Eff.commutes, Eff.spares, okPair, apart, eqAgg, fits, LK.fits, allEq, aveq, eqk, mmA, beqT, wrapI, idxI, tdivI, tmodI, decT, decF, ibT, ibF, inT, inF, evScope_c, if_pos, if_neg, Cm_some, put_plus1, thenW_n, thenW_e, thenW_r, blkW_n, blkW_e, blkW_r, if_true, q]
    exact kR _ _ (by simp [T.get, q])
  · refine Tr.w fun s1 H1 hp R kR => W.trim ?_
    obtain ⟨rfl, q⟩ := hp
    refine W.assoc ?_
    refine W.seq (W.chunk ?_)
    simp (disch := first | omega | exact getEq rfl | exact getO0 | exact Nat.le_of_ble_eq_true rfl) [c12_o12, came_some, goI, List.getElem?_cons_zero, List.getElem?_cons_succ, kn, keep, app_growP, app_noneP, plus_N, plus_at0, put_plus0, upd_N, upd_size, putAt, AV.cells, fillA, loadA, takeA, mk, Eff.isAll, Eff.isNone, Eff.commutes, Eff.spares, okPair, apart, eqAgg, fits, LK.fits, allEq, aveq, eqk, mmA, beqT, wrapI, idxI, tdivI, tmodI, decT, decF, ibT, ibF, inT, inF, evScope_c, if_pos, if_neg, Cm_some, put_plus1, thenW_n, thenW_e, thenW_r, blkW_n, blkW_e, blkW_r, if_true, q]
    refine W.seq (W.chunk ?_)
    simp (disch := first | omega | exact getEq rfl | exact getO0 | exact Nat.le_of_ble_eq_true rfl) [came_some, goI, List.getElem?_cons_zero, List.getElem?_cons_succ, kn, keep, app_growP, app_noneP, plus_N, plus_at0, put_plus0, upd_N, upd_size, putAt, AV.cells, fillA, loadA, takeA, mk, Eff.isAll, Eff.isNone, Eff.commutes, Eff.spares, okPair, apart, eqAgg, fits, LK.fits, allEq, aveq, eqk, mmA, beqT, wrapI, idxI, tdivI, tmodI, decT, decF, ibT, ibF, inT, inF, evScope_c, if_pos, if_neg, Cm_some, put_plus1, thenW_n, thenW_e, thenW_r, blkW_n, blkW_e, blkW_r, if_true, q]
    exact kR _ _ (by simp [T.get, q])
theorem a12_k (J : CallF) (ta : TT H n A qa ra) (tb : TT H n B qb rb) (h8 : n ≤ 8) {i j : Nat} (hi : i < n) (hj : j < n) (hA : ∀ x, 0 ≤ A x) (hB : ∀ x, 0 ≤ B x) (hs : sm (fun k => A (i * 8 + k) * B (k * 8 + j)) n ≤ mostP) (vc : AV) :
    Tr tbl J c12_l1 (fun s h => h = H ∧ s.get [] = G n ∧ s.get [true, true, false] = .slice qa 0 n n ∧ s.get [true, false, true] = .slice qb 0 n n ∧ s.get [true, true, true] = vc ∧ s.get [false, true, false, false] = G i ∧ s.get [true, true, false, false] = G j ∧ s.get [false, false, true, false] = G 0 ∧ s.get [true, false, true, false] = G ((0 : Nat) : Int)) (.exit 6) (fun s h => h = H ∧ s.get [] = G n ∧ s.get [true, true, false] = .slice qa 0 n n ∧ s.get [true, false, true] = .slice qb 0 n n ∧ s.get [true, true, true] = vc ∧ s.get [false, true, false, false] = G i ∧ s.get [true, true, false, false] = G j ∧ s.get [false, false, true, false] = G (sm (fun k => A (i * 8 + k) * B (k * 8 + j)) n)) := by
  have hmp : mostP = 1152921504606846976 := rfl
  refine Tr.rounds (P := fun k => (fun s h => h = H ∧ s.get [] = G n ∧ s.get [true, true, false] = .slice qa 0 n n ∧ s.get [true, false, true] = .slice qb 0 n n ∧ s.get [true, true, true] = vc ∧ s.get [false, true, false, false] = G i ∧ s.get [true, true, false, false] = G j ∧ s.get [false, false, true, false] = G (sm (fun k => A (i * 8 + k) * B (k * 8 + j)) k) ∧ s.get [true, false, true, false] = G k)) (M := n) (fun k hk => ?_) ?_ (by simp) 0 (by omega)
  · refine Tr.w fun s1 H1 hp R kR => W.trim ?_
    obtain ⟨rfl, q⟩ := hp
    have nn : ∀ k, 0 ≤ A (i * 8 + k) * B (k * 8 + j) := fun k => Int.mul_nonneg (hA _) (hB _)
    have s0 := sm_nn nn k
    have s1 := sm_mono nn (n - (k + 1)) (k + 1)
    rw [show k + 1 + (n - (k + 1)) = n by omega] at s1
    have se : sm (fun k => A (i * 8 + k) * B (k * 8 + j)) (k + 1) = sm (fun k => A (i * 8 + k) * B (k * 8 + j)) k + A (i * 8 + k) * B (k * 8 + j) := rfl
    have n0 := nn k
    simp only [se] at kR
    rw [se] at s1
    obtain ⟨b1, e1, g1⟩ := ta.r i hi
    obtain ⟨b2, e2, g2⟩ := tb.r k hk
    have ea := rwL_at A (i := i) hk
    have eb := rwL_at B (i := k) hj
    have ga := ta.g
    have gb := tb.g
    have e1' := getI e1
    have e2' := getI e2
    have ea' := getI ea
    have eb' := getI eb
    generalize sm (fun k => A (i * 8 + k) * B (k * 8 + j)) n = Sn at *
    generalize sm (fun k => A (i * 8 + k) * B (k * 8 + j)) k = S at *
    clear nn se
    generalize A (i * 8 + k) = a at *
    generalize B (k * 8 + j) = b at *
    obtain ⟨p, hp⟩ : ∃ p, a * b = p := ⟨_, rfl⟩
    rw [hp] at kR n0 s1
    refine W.assoc ?_
    refine W.seq (W.chunk ?_)
    simp (disch := first | omega | exact getEq rfl | exact getO0 | exact Nat.le_of_ble_eq_true rfl) [c12_o22, came_some, goI, List.getElem?_cons_zero, List.getElem?_cons_succ, kn, keep, app_growP, app_noneP, plus_N, plus_at0, put_plus0, upd_N, upd_size, putAt, AV.cells, fillA, loadA, takeA, mk, Eff.isAll, Eff.isNone, Eff.commutes, Eff.spares, okPair, apart, eqAgg, fits, LK.fits, allEq, aveq, eqk, mmA, beqT, wrapI, idxI, tdivI, tmodI, decT, decF, ibT, ibF, inT, inF, evScope_c, if_pos, if_neg, Cm_some, put_plus1, thenW_n, thenW_e, thenW_r, blkW_n, blkW_e, blkW_r, if_true, q]
    refine W.seq (W.chunk ?_)
    simp (disch := first | omega | exact getEq rfl | exact getO0 | exact Nat.le_of_ble_eq_true rfl) [came_some, goI, List.getElem?_cons_zero, List.getElem?_cons_succ, kn, keep, app_growP, app_noneP, plus_N, plus_at0, put_plus0, upd_N, upd_size, putAt, AV.cells, fillA, loadA, takeA, mk, Eff.isAll, Eff.isNone, Eff.commutes, Eff.spares, okPair, apart, eqAgg, fits, LK.fits, allEq, aveq, eqk, mmA, beqT, wrapI, idxI, tdivI, tmodI, decT, decF, ibT, ibF, inT, inF, evScope_c, if_pos, if_neg, Cm_some, put_plus1, thenW_n, thenW_e, thenW_r, blkW_n, blkW_e, blkW_r, if_true, q]
    refine W.seq (W.block ?_)
    refine W.chunk ?_
    simp (disch := first | omega | exact getEq rfl | exact getO0 | exact Nat.le_of_ble_eq_true rfl) [c12_o23, came_some, goI, List.getElem?_cons_zero, List.getElem?_cons_succ, kn, keep, app_growP, app_noneP, plus_N, plus_at0, put_plus0, upd_N, upd_size, putAt, AV.cells, fillA, loadA, takeA, mk, Eff.isAll, Eff.isNone, Eff.commutes, Eff.spares, okPair, apart, eqAgg, fits, LK.fits, allEq, aveq, eqk, mmA, beqT, wrapI, idxI, tdivI, tmodI, decT, decF, ibT, ibF, inT, inF, evScope_c, if_pos, if_neg, Cm_some, put_plus1, thenW_n, thenW_e, thenW_r, blkW_n, blkW_e, blkW_r, if_true, q, ga, gb, e1, e1', e2, e2', g1, g2, ea, ea', eb, eb', hp, -evDraw_c, evDraw_0]
    refine W.chunk ?_
    simp (disch := first | omega | exact getEq rfl | exact getO0 | exact Nat.le_of_ble_eq_true rfl) [c12_o24, came_some, goI, List.getElem?_cons_zero, List.getElem?_cons_succ, kn, keep, app_growP, app_noneP, plus_N, plus_at0, put_plus0, upd_N, upd_size, putAt, AV.cells, fillA, loadA, takeA, mk, Eff.isAll, Eff.isNone, Eff.commutes, Eff.spares, okPair, apart, eqAgg, fits, LK.fits, allEq, aveq, eqk, mmA, beqT, wrapI, idxI, tdivI, tmodI, decT, decF, ibT, ibF, inT, inF, evScope_c, if_pos, if_neg, Cm_some, put_plus1, thenW_n, thenW_e, thenW_r, blkW_n, blkW_e, blkW_r, if_true, q]
    exact kR _ _ (by simp [T.get, q])
  · refine Tr.w fun s1 H1 hp R kR => W.trim ?_
    obtain ⟨rfl, q⟩ := hp
    generalize sm (fun k => A (i * 8 + k) * B (k * 8 + j)) n = Sn at *
    refine W.assoc ?_
    refine W.seq (W.chunk ?_)
    simp (disch := first | omega | exact getEq rfl | exact getO0 | exact Nat.le_of_ble_eq_true rfl) [c12_o22, came_some, goI, List.getElem?_cons_zero, List.getElem?_cons_succ, kn, keep, app_growP, app_noneP, plus_N, plus_at0, put_plus0, upd_N, upd_size, putAt, AV.cells, fillA, loadA, takeA, mk, Eff.isAll, Eff.isNone, Eff.commutes, Eff.spares, okPair, apart, eqAgg, fits, LK.fits, allEq, aveq, eqk, mmA, beqT, wrapI, idxI, tdivI, tmodI, decT, decF, ibT, ibF, inT, inF, evScope_c, if_pos, if_neg, Cm_some, put_plus1, thenW_n, thenW_e, thenW_r, blkW_n, blkW_e, blkW_r, if_true, q]
    refine W.seq (W.chunk ?_)
    simp (disch := first | omega | exact getEq rfl | exact getO0 | exact Nat.le_of_ble_eq_true rfl) [came_some, goI, List.getElem?_cons_zero, List.getElem?_cons_succ, kn, keep, app_growP, app_noneP, plus_N, plus_at0, put_plus0, upd_N, upd_size, putAt, AV.cells, fillA, loadA, takeA, mk, Eff.isAll, Eff.isNone, Eff.commutes, Eff.spares, okPair, apart, eqAgg, fits, LK.fits, allEq, aveq, eqk, mmA, beqT, wrapI, idxI, tdivI, tmodI, decT, decF, ibT, ibF, inT, inF, evScope_c, if_pos, if_neg, Cm_some, put_plus1, thenW_n, thenW_e, thenW_r, blkW_n, blkW_e, blkW_r, if_true, q]
    exact kR _ _ (by simp [T.get, q])
theorem a12_j (J : CallF) (ta : TT H n A qa ra) (tb : TT H n B qb rb) (tc : TT H n C qc rc) (h8 : n ≤ 8) {i : Nat} (hi : i < n) (hA : ∀ x, 0 ≤ A x) (hB : ∀ x, 0 ≤ B x) (hs : ∀ j, j < n → C (i * 8 + j) = sm (fun k => A (i * 8 + k) * B (k * 8 + j)) n ∧ C (i * 8 + j) ≤ mostP) :
    Tr tbl J c12_l2 (fun s h => h = H ∧ s.get [] = G n ∧ s.get [true, true, false] = .slice qa 0 n n ∧ s.get [true, false, true] = .slice qb 0 n n ∧ s.get [true, true, true] = .slice qc 0 n n ∧ s.get [false, true, false, false] = G i ∧ s.get [true, true, false, false] = G ((0 : Nat) : Int)) (.exit 4) (fun s h => h = H ∧ s.get [] = G n ∧ s.get [true, true, false] = .slice qa 0 n n ∧ s.get [true, false, true] = .slice qb 0 n n ∧ s.get [true, true, true] = .slice qc 0 n n ∧ s.get [false, true, false, false] = G i) := by
  refine Tr.rounds (P := fun j => (fun s h => h = H ∧ s.get [] = G n ∧ s.get [true, true, false] = .slice qa 0 n n ∧ s.get [true, false, true] = .slice qb 0 n n ∧ s.get [true, true, true] = .slice qc 0 n n ∧ s.get [false, true, false, false] = G i ∧ s.get [true, true, false, false] = G j)) (M := n) (fun j hj => ?_) ?_ (by simp) 0 (by omega)
  · refine Tr.w fun s1 H1 hp R kR => W.trim ?_
    obtain ⟨rfl, q⟩ := hp
    obtain ⟨c1, c2⟩ := hs j hj
    have l1 := a12_k J ta tb h8 hi hj hA hB (by rw [← c1]; exact c2) (.slice qc 0 n n)
    rw [← c1] at l1
    obtain ⟨b1, e1, g1⟩ := tc.r i hi
    have ec := rwL_at C (i := i) hj
    have gc := tc.g
    have e1' := getI e1
    have ec' := getI ec
    clear c1 hs
    generalize C (i * 8 + j) = cc at *
    refine W.assoc ?_
    refine W.seq (W.chunk ?_)
    simp (disch := first | omega | exact getEq rfl | exact getO0 | exact Nat.le_of_ble_eq_true rfl) [c12_o19, came_some, goI, List.getElem?_cons_zero, List.getElem?_cons_succ, kn, keep, app_growP, app_noneP, plus_N, plus_at0, put_plus0, upd_N, upd_size, putAt, AV.cells, fillA, loadA, takeA, mk, Eff.isAll, Eff.isNone, Eff.commutes, Eff.spares, okPair, apart, eqAgg, fits, LK.fits, allEq, aveq, eqk, mmA, beqT, wrapI, idxI, tdivI, tmodI, decT, decF, ibT, ibF, inT, inF, evScope_c, if_pos, if_neg, Cm_some, put_plus1, thenW_n, thenW_e, thenW_r, blkW_n, blkW_e, blkW_r, if_true, q]
    refine W.seq (W.chunk ?_)
    simp (disch := first | omega | exact getEq rfl | exact getO0 | exact Nat.le_of_ble_eq_true rfl) [came_some, goI, List.getElem?_cons_zero, List.getElem?_cons_succ, kn, keep, app_growP, app_noneP, plus_N, plus_at0, put_plus0, upd_N, upd_size, putAt, AV.cells, fillA, loadA, takeA, mk, Eff.isAll, Eff.isNone, Eff.commutes, Eff.spares, okPair, apart, eqAgg, fits, LK.fits, allEq, aveq, eqk, mmA, beqT, wrapI, idxI, tdivI, tmodI, decT, decF, ibT, ibF, inT, inF, evScope_c, if_pos, if_neg, Cm_some, put_plus1, thenW_n, thenW_e, thenW_r, blkW_n, blkW_e, blkW_r, if_true, q]
    refine W.seq (W.block ?_)
    refine W.seq (W.chunk ?_)
    simp (disch := first | omega | exact getEq rfl | exact getO0 | exact Nat.le_of_ble_eq_true rfl) [c12_o20, came_some, goI, List.getElem?_cons_zero, List.getElem?_cons_succ, kn, keep, app_growP, app_noneP, plus_N, plus_at0, put_plus0, upd_N, upd_size, putAt, AV.cells, fillA, loadA, takeA, mk, Eff.isAll, Eff.isNone, Eff.commutes, Eff.spares, okPair, apart, eqAgg, fits, LK.fits, allEq, aveq, eqk, mmA, beqT, wrapI, idxI, tdivI, tmodI, decT, decF, ibT, ibF, inT, inF, evScope_c, if_pos, if_neg, Cm_some, put_plus1, thenW_n, thenW_e, thenW_r, blkW_n, blkW_e, blkW_r, if_true, q]
    refine W.assoc ?_
    refine W.seq (W.chunk ?_)
    simp (disch := first | omega | exact getEq rfl | exact getO0 | exact Nat.le_of_ble_eq_true rfl) [c12_o21, came_some, goI, List.getElem?_cons_zero, List.getElem?_cons_succ, kn, keep, app_growP, app_noneP, plus_N, plus_at0, put_plus0, upd_N, upd_size, putAt, AV.cells, fillA, loadA, takeA, mk, Eff.isAll, Eff.isNone, Eff.commutes, Eff.spares, okPair, apart, eqAgg, fits, LK.fits, allEq, aveq, eqk, mmA, beqT, wrapI, idxI, tdivI, tmodI, decT, decF, ibT, ibF, inT, inF, evScope_c, if_pos, if_neg, Cm_some, put_plus1, thenW_n, thenW_e, thenW_r, blkW_n, blkW_e, blkW_r, if_true, q]
    refine W.seq (W.block ?_)
    refine W.use (l1) (by simp (disch := first | omega | exact getEq rfl | exact getO0 | exact Nat.le_of_ble_eq_true rfl) [came_some, goI, List.getElem?_cons_zero, List.getElem?_cons_succ, kn, keep, app_growP, app_noneP, plus_N, plus_at0, put_plus0, upd_N, upd_size, putAt, AV.cells, fillA, loadA, takeA, mk, Eff.isAll, Eff.isNone, Eff.commutes, Eff.spares, okPair, apart, eqAgg, fits, LK.fits, allEq, aveq, eqk, mmA, beqT, wrapI, idxI, tdivI, tmodI, decT, decF, ibT, ibF, inT, inF, evScope_c, if_pos, if_neg, Cm_some, put_plus1, thenW_n, thenW_e, thenW_r, blkW_n, blkW_e, blkW_r, if_true, q]) fun s1 H1 hp => ?_
    obtain ⟨rfl, q⟩ := hp
    try simp only [thenW_n, thenW_e, thenW_r, blkW_n, blkW_e, blkW_r, if_true]
    refine W.seq (W.chunk ?_)
    simp (disch := first | omega | exact getEq rfl | exact getO0 | exact Nat.le_of_ble_eq_true rfl) [c12_o25, came_some, goI, List.getElem?_cons_zero, List.getElem?_cons_succ, kn, keep, app_growP, app_noneP, plus_N, plus_at0, put_plus0, upd_N, upd_size, putAt, AV.cells, fillA, loadA, takeA, mk, Eff.isAll, Eff.isNone, Eff.commutes, Eff.spares, okPair, apart, eqAgg, fits, LK.fits, allEq, aveq, eqk, mmA, beqT, wrapI, idxI, tdivI, tmodI, decT, decF, ibT, ibF, inT, inF, evScope_c, if_pos, if_neg, Cm_some, put_plus1, thenW_n, thenW_e, thenW_r, blkW_n, blkW_e, blkW_r, if_true, q, gc, e1, e1', g1, ec, ec']
    refine W.chunk ?_
    simp (disch := first | omega | exact getEq rfl | exact getO0 | exact Nat.le_of_ble_eq_true rfl) [c12_o26, came_some, goI, List.getElem?_cons_zero, List.getElem?_cons_succ, kn, keep, app_growP, app_noneP, plus_N, plus_at0, put_plus0, upd_N, upd_size, putAt, AV.cells, fillA, loadA, takeA, mk, Eff.isAll, Eff.isNone, Eff.commutes, Eff.spares, okPair, apart, eqAgg, fits, LK.fits, allEq, aveq, eqk, mmA, beqT, wrapI, idxI, tdivI, tmodI, decT, decF, ibT, ibF, inT, inF, evScope_c, if_pos, if_neg, Cm_some, put_plus1, thenW_n, thenW_e, thenW_r, blkW_n, blkW_e, blkW_r, if_true, q]
    refine W.chunk ?_
    simp (disch := first | omega | exact getEq rfl | exact getO0 | exact Nat.le_of_ble_eq_true rfl) [c12_o27, came_some, goI, List.getElem?_cons_zero, List.getElem?_cons_succ, kn, keep, app_growP, app_noneP, plus_N, plus_at0, put_plus0, upd_N, upd_size, putAt, AV.cells, fillA, loadA, takeA, mk, Eff.isAll, Eff.isNone, Eff.commutes, Eff.spares, okPair, apart, eqAgg, fits, LK.fits, allEq, aveq, eqk, mmA, beqT, wrapI, idxI, tdivI, tmodI, decT, decF, ibT, ibF, inT, inF, evScope_c, if_pos, if_neg, Cm_some, put_plus1, thenW_n, thenW_e, thenW_r, blkW_n, blkW_e, blkW_r, if_true, q]
    exact kR _ _ (by simp [T.get, q])
  · refine Tr.w fun s1 H1 hp R kR => W.trim ?_
    obtain ⟨rfl, q⟩ := hp
    refine W.assoc ?_
    refine W.seq (W.chunk ?_)
    simp (disch := first | omega | exact getEq rfl | exact getO0 | exact Nat.le_of_ble_eq_true rfl) [c12_o19, came_some, goI, List.getElem?_cons_zero, List.getElem?_cons_succ, kn, keep, app_growP, app_noneP, plus_N, plus_at0, put_plus0, upd_N, upd_size, putAt, AV.cells, fillA, loadA, takeA, mk, Eff.isAll, Eff.isNone, Eff.commutes, Eff.spares, okPair, apart, eqAgg, fits, LK.fits, allEq, aveq, eqk, mmA, beqT, wrapI, idxI, tdivI, tmodI, decT, decF, ibT, ibF, inT, inF, evScope_c, if_pos, if_neg, Cm_some, put_plus1, thenW_n, thenW_e, thenW_r, blkW_n, blkW_e, blkW_r, if_true, q]
    refine W.seq (W.chunk ?_)
    simp (disch := first | omega | exact getEq rfl | exact getO0 | exact Nat.le_of_ble_eq_true rfl) [came_some, goI, List.getElem?_cons_zero, List.getElem?_cons_succ, kn, keep, app_growP, app_noneP, plus_N, plus_at0, put_plus0, upd_N, upd_size, putAt, AV.cells, fillA, loadA, takeA, mk, Eff.isAll, Eff.isNone, Eff.commutes, Eff.spares, okPair, apart, eqAgg, fits, LK.fits, allEq, aveq, eqk, mmA, beqT, wrapI, idxI, tdivI, tmodI, decT, decF, ibT, ibF, inT, inF, evScope_c, if_pos, if_neg, Cm_some, put_plus1, thenW_n, thenW_e, thenW_r, blkW_n, blkW_e, blkW_r, if_true, q]
    exact kR _ _ (by simp [T.get, q])
theorem a12_i (J : CallF) (ta : TT H n A qa ra) (tb : TT H n B qb rb) (tc : TT H n C qc rc) (h8 : n ≤ 8) (hA : ∀ x, 0 ≤ A x) (hB : ∀ x, 0 ≤ B x) (hs : ∀ i, i < n → ∀ j, j < n → C (i * 8 + j) = sm (fun k => A (i * 8 + k) * B (k * 8 + j)) n ∧ C (i * 8 + j) ≤ mostP) :
    Tr tbl J c12_l3 (fun s h => h = H ∧ s.get [] = G n ∧ s.get [true, true, false] = .slice qa 0 n n ∧ s.get [true, false, true] = .slice qb 0 n n ∧ s.get [true, true, true] = .slice qc 0 n n ∧ s.get [false, true, false, false] = G ((0 : Nat) : Int)) (.exit 2) (fun s h => h = H ∧ s.get [] = G n) := by
  refine Tr.rounds (P := fun i => (fun s h => h = H ∧ s.get [] = G n ∧ s.get [true, true, false] = .slice qa 0 n n ∧ s.get [true, false, true] = .slice qb 0 n n ∧ s.get [true, true, true] = .slice qc 0 n n ∧ s.get [false, true, false, false] = G i)) (M := n) (fun i hi => ?_) ?_ (by simp) 0 (by omega)
  · refine Tr.w fun s1 H1 hp R kR => W.trim ?_
    obtain ⟨rfl, q⟩ := hp
    have l2 := a12_j J ta tb tc h8 hi hA hB (hs i hi)
    clear hs
    refine W.assoc ?_
    refine W.seq (W.chunk ?_)
    simp (disch := first | omega | exact getEq rfl | exact getO0 | exact Nat.le_of_ble_eq_true rfl) [c12_o17, came_some, goI, List.getElem?_cons_zero, List.getElem?_cons_succ, kn, keep, app_growP, app_noneP, plus_N, plus_at0, put_plus0, upd_N, upd_size, putAt, AV.cells, fillA, loadA, takeA, mk, Eff.isAll, Eff.isNone, Eff.commutes, Eff.spares, okPair, apart, eqAgg, fits, LK.fits, allEq, aveq, eqk, mmA, beqT, wrapI, idxI, tdivI, tmodI, decT, decF, ibT, ibF, inT, inF, evScope_c, if_pos, if_neg, Cm_some, put_plus1, thenW_n, thenW_e, thenW_r, blkW_n, blkW_e, blkW_r, if_true, q]
    refine W.seq (W.chunk ?_)
    simp (disch := first | omega | exact getEq rfl | exact getO0 | exact Nat.le_of_ble_eq_true rfl) [came_some, goI, List.getElem?_cons_zero, List.getElem?_cons_succ, kn, keep, app_growP, app_noneP, plus_N, plus_at0, put_plus0, upd_N, upd_size, putAt, AV.cells, fillA, loadA, takeA, mk, Eff.isAll, Eff.isNone, Eff.commutes, Eff.spares, okPair, apart, eqAgg, fits, LK.fits, allEq, aveq, eqk, mmA, beqT, wrapI, idxI, tdivI, tmodI, decT, decF, ibT, ibF, inT, inF, evScope_c, if_pos, if_neg, Cm_some, put_plus1, thenW_n, thenW_e, thenW_r, blkW_n, blkW_e, blkW_r, if_true, q]
    refine W.seq (W.block ?_)
    refine W.seq (W.chunk ?_)
    simp (disch := first | omega | exact getEq rfl | exact getO0 | exact Nat.le_of_ble_eq_true rfl) [c12_o18, came_some, goI, List.getElem?_cons_zero, List.getElem?_cons_succ, kn, keep, app_growP, app_noneP, plus_N, plus_at0, put_plus0, upd_N, upd_size, putAt, AV.cells, fillA, loadA, takeA, mk, Eff.isAll, Eff.isNone, Eff.commutes, Eff.spares, okPair, apart, eqAgg, fits, LK.fits, allEq, aveq, eqk, mmA, beqT, wrapI, idxI, tdivI, tmodI, decT, decF, ibT, ibF, inT, inF, evScope_c, if_pos, if_neg, Cm_some, put_plus1, thenW_n, thenW_e, thenW_r, blkW_n, blkW_e, blkW_r, if_true, q]
    refine W.block ?_
    refine W.use (l2) (by simp (disch := first | omega | exact getEq rfl | exact getO0 | exact Nat.le_of_ble_eq_true rfl) [came_some, goI, List.getElem?_cons_zero, List.getElem?_cons_succ, kn, keep, app_growP, app_noneP, plus_N, plus_at0, put_plus0, upd_N, upd_size, putAt, AV.cells, fillA, loadA, takeA, mk, Eff.isAll, Eff.isNone, Eff.commutes, Eff.spares, okPair, apart, eqAgg, fits, LK.fits, allEq, aveq, eqk, mmA, beqT, wrapI, idxI, tdivI, tmodI, decT, decF, ibT, ibF, inT, inF, evScope_c, if_pos, if_neg, Cm_some, put_plus1, thenW_n, thenW_e, thenW_r, blkW_n, blkW_e, blkW_r, if_true, q]) fun s1 H1 hp => ?_
    obtain ⟨rfl, q⟩ := hp
    try simp only [thenW_n, thenW_e, thenW_r, blkW_n, blkW_e, blkW_r, if_true]
    refine W.chunk ?_
    simp (disch := first | omega | exact getEq rfl | exact getO0 | exact Nat.le_of_ble_eq_true rfl) [c12_o28, came_some, goI, List.getElem?_cons_zero, List.getElem?_cons_succ, kn, keep, app_growP, app_noneP, plus_N, plus_at0, put_plus0, upd_N, upd_size, putAt, AV.cells, fillA, loadA, takeA, mk, Eff.isAll, Eff.isNone, Eff.commutes, Eff.spares, okPair, apart, eqAgg, fits, LK.fits, allEq, aveq, eqk, mmA, beqT, wrapI, idxI, tdivI, tmodI, decT, decF, ibT, ibF, inT, inF, evScope_c, if_pos, if_neg, Cm_some, put_plus1, thenW_n, thenW_e, thenW_r, blkW_n, blkW_e, blkW_r, if_true, q]
    exact kR _ _ (by simp [T.get, q])
  · refine Tr.w fun s1 H1 hp R kR => W.trim ?_
    obtain ⟨rfl, q⟩ := hp
    refine W.assoc ?_
    refine W.seq (W.chunk ?_)
    simp (disch := first | omega | exact getEq rfl | exact getO0 | exact Nat.le_of_ble_eq_true rfl) [c12_o17, came_some, goI, List.getElem?_cons_zero, List.getElem?_cons_succ, kn, keep, app_growP, app_noneP, plus_N, plus_at0, put_plus0, upd_N, upd_size, putAt, AV.cells, fillA, loadA, takeA, mk, Eff.isAll, Eff.isNone, Eff.commutes, Eff.spares, okPair, apart, eqAgg, fits, LK.fits, allEq, aveq, eqk, mmA, beqT, wrapI, idxI, tdivI, tmodI, decT, decF, ibT, ibF, inT, inF, evScope_c, if_pos, if_neg, Cm_some, put_plus1, thenW_n, thenW_e, thenW_r, blkW_n, blkW_e, blkW_r, if_true, q]
    refine W.seq (W.chunk ?_)
    simp (disch := first | omega | exact getEq rfl | exact getO0 | exact Nat.le_of_ble_eq_true rfl) [came_some, goI, List.getElem?_cons_zero, List.getElem?_cons_succ, kn, keep, app_growP, app_noneP, plus_N, plus_at0, put_plus0, upd_N, upd_size, putAt, AV.cells, fillA, loadA, takeA, mk, Eff.isAll, Eff.isNone, Eff.commutes, Eff.spares, okPair, apart, eqAgg, fits, LK.fits, allEq, aveq, eqk, mmA, beqT, wrapI, idxI, tdivI, tmodI, decT, decF, ibT, ibF, inT, inF, evScope_c, if_pos, if_neg, Cm_some, put_plus1, thenW_n, thenW_e, thenW_r, blkW_n, blkW_e, blkW_r, if_true, q]
    exact kR _ _ (by simp [T.get, q])
end
structure KnA (J : CallF) : Prop where
  k23 : ∀ h, J 23 [] h = some (.bool true, [], false)
  k27 : K27 J
  k28 : K28 J
  k43 : K43 J
theorem adds_law (J : CallF) (K : KnA J) (hJ : ∀ a h, J 12 a h = none) (h : Heap) (a c d : Int) {m : AV} {M : List (List Int)} (hm : MR h m M) : CallsTo tbl J 12 [G a, m, .agg [G c, G d]] h (.bool true, [], false) := by
  refine Tr.fnv (cf := c12) (e := .ret) (s := T.set (T.set (T.set .leaf [] (G a)) [false] m) [true] (.agg [G c, G d])) (by decide) rfl (hJ _ _) rfl rfl rfl (by simp) ?_
  refine Tr.w fun s1 H1 hp R kR => ?_
  obtain ⟨rfl, rfl⟩ := hp
  have q : True := trivial
  have fin : ∀ s h', s.get [true, true] = .bool true → R .ret s h' := fun s h' a => kR _ _ ⟨[.bool true], by simp [c12, evRess, evRes, a], rfl⟩
  clear kR
  have b1 := mdZ_bd a (show (0 : Int) < 8 by decide)
  have b2 := mdZ_bd c (show (0 : Int) < 6 by decide)
  have b3 := mdZ_bd d (show (0 : Int) < 5 by decide)
  have k1 := fun h => K.k27 a 8 h (by decide) (by decide)
  have k2 := fun h => K.k27 c 6 h (by decide) (by decide)
  have k3 := fun h => K.k27 d 5 h (by decide) (by decide)
  obtain ⟨n, hn⟩ : ∃ n : Nat, mdZ a 8 = (n : Int) := ⟨(mdZ a 8).toNat, by omega⟩
  obtain ⟨s, hs⟩ : ∃ n : Nat, mdZ c 6 = (n : Int) := ⟨(mdZ c 6).toNat, by omega⟩
  obtain ⟨t, ht⟩ : ∃ n : Nat, mdZ d 5 = (n : Int) := ⟨(mdZ d 5).toNat, by omega⟩
  rw [hn] at b1 k1
  rw [hs] at b2 k2
  rw [ht] at b3 k3
  have hm0 : MR ((frameOf h).plus [.cells 0 2 [G c, G d]]) m M := MR.kp (hm.lo []) (Kp.plus _ _)
  obtain ⟨x, own, N, k28, tg, hlN, hq⟩ := K.k28 _ m M (n + 1) 9 hm0 (by omega) (by decide)
  have hN : isMat N = true := sqM_mat hq hlN (by omega) (by decide)
  have f3 : (((frameOf h).plus [.cells 0 2 [G c, G d]]).plus own).get (frameOf h).size = .cells 0 2 [G c, G d] := plus_keep _ (plus_at0 _ _ _ _ rfl) (by simp)
  have hx := tg.mr
  clear tg hm0
  have ns : ((n + 1 : Nat) : Int) = 1 + (n : Int) := by omega
  rw [ns] at k28
  generalize hH : ((frameOf h).plus [.cells 0 2 [G c, G d]]).plus own = Ha at *
  obtain ⟨v1, own1, k43a, _, _, p1⟩ := K.k43 Ha ⟨N, x, s⟩ hx
  obtain ⟨w1, rfl, tb1⟩ := p1 ⟨hN, by simp only; omega, by simp only; omega⟩ (by simpa using okP_small hN (by omega))
  simp only [Int.toNat_natCast] at k43a tb1
  have kpa : Kp (fun _ => False) Ha (Ha.plus own1) := Kp.plus _ _
  generalize hHb : Ha.plus own1 = Hb at *
  obtain ⟨v2, own2, k43b, _, _, p2⟩ := K.k43 Hb ⟨N, x, t⟩ (hx.kp kpa)
  obtain ⟨w2, rfl, tb2⟩ := p2 ⟨hN, by simp only; omega, by simp only; omega⟩ (by simpa using okP_small hN (by omega))
  simp only [Int.toNat_natCast] at k43b tb2
  have kpb : Kp (fun _ => False) Hb (Hb.plus own2) := Kp.plus _ _
  generalize hHc : Hb.plus own2 = Hc at *
  obtain ⟨v3, own3, k43c, _, _, p3⟩ := K.k43 Hc ⟨N, x, ((s + t : Nat) : Int)⟩ (hx.kp (kpa.trans kpb))
  obtain ⟨w3, rfl, tb3⟩ := p3 ⟨hN, by simp only; omega, by simp only; omega⟩ (by simpa using okP_small hN (by omega))
  simp only [Int.toNat_natCast] at k43c tb3
  have kpc : Kp (fun _ => False) Hc (Hc.plus own3) := Kp.plus _ _
  generalize hHd : Hc.plus own3 = Hd at *
  obtain ⟨qa, ra, rfl, ta⟩ := tb1.tt hN
  obtain ⟨qb, rb, rfl, tb⟩ := tb2.tt hN
  obtain ⟨qc, rc, rfl, tc⟩ := tb3.tt hN
  have ta := ta.kp (kpb.trans kpc)
  have tb := tb.kp kpc
  have h8 := isMat_n hN
  have hA := fun x => (pwX_le hN s x).1
  have hB := fun x => (pwX_le hN t x).1
  have l0 := a12_l0 J ta tb tc h8.2
  have l3 := a12_i J ta tb tc h8.2 hA hB (fun i hi j hj => ⟨pwX_add hN s hi t hj, (pwX_bd hN (okP_small hN (by omega)) _).2⟩)
  rw [hlN] at k43a k43b k43c
  rw [hlN] at l0 l3
  have st : ((s + t : Nat) : Int) = (s : Int) + t := by omega
  rw [st] at k43c
  simp only [ns] at l0 l3
  have k23 := K.k23
  clear p1 p2 p3 tb1 tb2 tb3 ta tb tc hx
  have hHa : (frameOf h).plus [AObj.cells 0 2 [G c, G d]] = (frameOf h).plus [AObj.cells 0 2 [G c, G d]] := rfl
  refine W.seq (W.chunk ?_)
  simp (disch := first | omega | exact getEq rfl | exact getO0 | exact Nat.le_of_ble_eq_true rfl) [c12_o0, came_some, goI, List.getElem?_cons_zero, List.getElem?_cons_succ, kn, keep, app_growP, app_noneP, plus_N, plus_at0, put_plus0, upd_N, upd_size, putAt, AV.cells, fillA, loadA, takeA, mk, Eff.isAll, Eff.isNone, Eff.commutes, Eff.spares, okPair, apart, eqAgg, fits, LK.fits, allEq, aveq, eqk, mmA, beqT, wrapI, idxI, tdivI, tmodI, decT, decF, ibT, ibF, inT, inF, evScope_c, if_pos, if_neg, Cm_some, put_plus1, thenW_n, thenW_e, thenW_r, blkW_n, blkW_e, blkW_r, if_true, q]
  refine W.seq (W.chunk ?_)
  simp (disch := first | omega | exact getEq rfl | exact getO0 | exact Nat.le_of_ble_eq_true rfl) [c12_o1, came_some, goI, List.getElem?_cons_zero, List.getElem?_cons_succ, kn, keep, app_growP, app_noneP, plus_N, plus_at0, put_plus0, upd_N, upd_size, putAt, AV.cells, fillA, loadA, takeA, mk, Eff.isAll, Eff.isNone, Eff.commutes, Eff.spares, okPair, apart, eqAgg, fits, LK.fits, allEq, aveq, eqk, mmA, beqT, wrapI, idxI, tdivI, tmodI, decT, decF, ibT, ibF, inT, inF, evScope_c, if_pos, if_neg, Cm_some, put_plus1, thenW_n, thenW_e, thenW_r, blkW_n, blkW_e, blkW_r, if_true, q, k1]
  refine W.seq (W.chunk ?_)
  simp (disch := first | omega | exact getEq rfl | exact getO0 | exact Nat.le_of_ble_eq_true rfl) [c12_o2, came_some, goI, List.getElem?_cons_zero, List.getElem?_cons_succ, kn, keep, app_growP, app_noneP, plus_N, plus_at0, put_plus0, upd_N, upd_size, putAt, AV.cells, fillA, loadA, takeA, mk, Eff.isAll, Eff.isNone, Eff.commutes, Eff.spares, okPair, apart, eqAgg, fits, LK.fits, allEq, aveq, eqk, mmA, beqT, wrapI, idxI, tdivI, tmodI, decT, decF, ibT, ibF, inT, inF, evScope_c, if_pos, if_neg, Cm_some, put_plus1, thenW_n, thenW_e, thenW_r, blkW_n, blkW_e, blkW_r, if_true, q, k28, app_if, app_if', hH]
  refine W.seq (W.chunk ?_)
  simp (disch := first | omega | exact getEq rfl | exact getO0 | exact Nat.le_of_ble_eq_true rfl) [c12_o3, came_some, goI, List.getElem?_cons_zero, List.getElem?_cons_succ, kn, keep, app_growP, app_noneP, plus_N, plus_at0, put_plus0, upd_N, upd_size, putAt, AV.cells, fillA, loadA, takeA, mk, Eff.isAll, Eff.isNone, Eff.commutes, Eff.spares, okPair, apart, eqAgg, fits, LK.fits, allEq, aveq, eqk, mmA, beqT, wrapI, idxI, tdivI, tmodI, decT, decF, ibT, ibF, inT, inF, evScope_c, if_pos, if_neg, Cm_some, put_plus1, thenW_n, thenW_e, thenW_r, blkW_n, blkW_e, blkW_r, if_true, q, f3, k2, k3, -evDraw_c, evDraw_0]
  refine W.seq (W.chunk ?_)
  simp (disch := first | omega | exact getEq rfl | exact getO0 | exact Nat.le_of_ble_eq_true rfl) [c12_o4, came_some, goI, List.getElem?_cons_zero, List.getElem?_cons_succ, kn, keep, app_growP, app_noneP, plus_N, plus_at0, put_plus0, upd_N, upd_size, putAt, AV.cells, fillA, loadA, takeA, mk, Eff.isAll, Eff.isNone, Eff.commutes, Eff.spares, okPair, apart, eqAgg, fits, LK.fits, allEq, aveq, eqk, mmA, beqT, wrapI, idxI, tdivI, tmodI, decT, decF, ibT, ibF, inT, inF, evScope_c, if_pos, if_neg, Cm_some, put_plus1, thenW_n, thenW_e, thenW_r, blkW_n, blkW_e, blkW_r, if_true, q, k43a, app_if, app_if', hHb]
  refine W.seq (W.chunk ?_)
  simp (disch := first | omega | exact getEq rfl | exact getO0 | exact Nat.le_of_ble_eq_true rfl) [c12_o5, came_some, goI, List.getElem?_cons_zero, List.getElem?_cons_succ, kn, keep, app_growP, app_noneP, plus_N, plus_at0, put_plus0, upd_N, upd_size, putAt, AV.cells, fillA, loadA, takeA, mk, Eff.isAll, Eff.isNone, Eff.commutes, Eff.spares, okPair, apart, eqAgg, fits, LK.fits, allEq, aveq, eqk, mmA, beqT, wrapI, idxI, tdivI, tmodI, decT, decF, ibT, ibF, inT, inF, evScope_c, if_pos, if_neg, Cm_some, put_plus1, thenW_n, thenW_e, thenW_r, blkW_n, blkW_e, blkW_r, if_true, q, k43b, app_if, app_if', hHc]
  refine W.seq (W.chunk ?_)
  simp (disch := first | omega | exact getEq rfl | exact getO0 | exact Nat.le_of_ble_eq_true rfl) [c12_o6, came_some, goI, List.getElem?_cons_zero, List.getElem?_cons_succ, kn, keep, app_growP, app_noneP, plus_N, plus_at0, put_plus0, upd_N, upd_size, putAt, AV.cells, fillA, loadA, takeA, mk, Eff.isAll, Eff.isNone, Eff.commutes, Eff.spares, okPair, apart, eqAgg, fits, LK.fits, allEq, aveq, eqk, mmA, beqT, wrapI, idxI, tdivI, tmodI, decT, decF, ibT, ibF, inT, inF, evScope_c, if_pos, if_neg, Cm_some, put_plus1, thenW_n, thenW_e, thenW_r, blkW_n, blkW_e, blkW_r, if_true, q, k43c, app_if, app_if', hHd]
  refine W.assoc ?_
  refine W.seq (W.chunk ?_)
  simp (disch := first | omega | exact getEq rfl | exact getO0 | exact Nat.le_of_ble_eq_true rfl) [c12_o7, came_some, goI, List.getElem?_cons_zero, List.getElem?_cons_succ, kn, keep, app_growP, app_noneP, plus_N, plus_at0, put_plus0, upd_N, upd_size, putAt, AV.cells, fillA, loadA, takeA, mk, Eff.isAll, Eff.isNone, Eff.commutes, Eff.spares, okPair, apart, eqAgg, fits, LK.fits, allEq, aveq, eqk, mmA, beqT, wrapI, idxI, tdivI, tmodI, decT, decF, ibT, ibF, inT, inF, evScope_c, if_pos, if_neg, Cm_some, put_plus1, thenW_n, thenW_e, thenW_r, blkW_n, blkW_e, blkW_r, if_true, q]
  refine W.seq (W.chunk ?_)
  simp (disch := first | omega | exact getEq rfl | exact getO0 | exact Nat.le_of_ble_eq_true rfl) [c12_o8, came_some, goI, List.getElem?_cons_zero, List.getElem?_cons_succ, kn, keep, app_growP, app_noneP, plus_N, plus_at0, put_plus0, upd_N, upd_size, putAt, AV.cells, fillA, loadA, takeA, mk, Eff.isAll, Eff.isNone, Eff.commutes, Eff.spares, okPair, apart, eqAgg, fits, LK.fits, allEq, aveq, eqk, mmA, beqT, wrapI, idxI, tdivI, tmodI, decT, decF, ibT, ibF, inT, inF, evScope_c, if_pos, if_neg, Cm_some, put_plus1, thenW_n, thenW_e, thenW_r, blkW_n, blkW_e, blkW_r, if_true, q]
  refine W.assoc ?_
  refine W.seq (W.chunk ?_)
  simp (disch := first | omega | exact getEq rfl | exact getO0 | exact Nat.le_of_ble_eq_true rfl) [c12_o9, came_some, goI, List.getElem?_cons_zero, List.getElem?_cons_succ, kn, keep, app_growP, app_noneP, plus_N, plus_at0, put_plus0, upd_N, upd_size, putAt, AV.cells, fillA, loadA, takeA, mk, Eff.isAll, Eff.isNone, Eff.commutes, Eff.spares, okPair, apart, eqAgg, fits, LK.fits, allEq, aveq, eqk, mmA, beqT, wrapI, idxI, tdivI, tmodI, decT, decF, ibT, ibF, inT, inF, evScope_c, if_pos, if_neg, Cm_some, put_plus1, thenW_n, thenW_e, thenW_r, blkW_n, blkW_e, blkW_r, if_true, q]
  refine W.seq (W.chunk ?_)
  simp (disch := first | omega | exact getEq rfl | exact getO0 | exact Nat.le_of_ble_eq_true rfl) [c12_o10, came_some, goI, List.getElem?_cons_zero, List.getElem?_cons_succ, kn, keep, app_growP, app_noneP, plus_N, plus_at0, put_plus0, upd_N, upd_size, putAt, AV.cells, fillA, loadA, takeA, mk, Eff.isAll, Eff.isNone, Eff.commutes, Eff.spares, okPair, apart, eqAgg, fits, LK.fits, allEq, aveq, eqk, mmA, beqT, wrapI, idxI, tdivI, tmodI, decT, decF, ibT, ibF, inT, inF, evScope_c, if_pos, if_neg, Cm_some, put_plus1, thenW_n, thenW_e, thenW_r, blkW_n, blkW_e, blkW_r, if_true, q]
  refine W.assoc ?_
  refine W.seq (W.chunk ?_)
  simp (disch := first | omega | exact getEq rfl | exact getO0 | exact Nat.le_of_ble_eq_true rfl) [c12_o11, came_some, goI, List.getElem?_cons_zero, List.getElem?_cons_succ, kn, keep, app_growP, app_noneP, plus_N, plus_at0, put_plus0, upd_N, upd_size, putAt, AV.cells, fillA, loadA, takeA, mk, Eff.isAll, Eff.isNone, Eff.commutes, Eff.spares, okPair, apart, eqAgg, fits, LK.fits, allEq, aveq, eqk, mmA, beqT, wrapI, idxI, tdivI, tmodI, decT, decF, ibT, ibF, inT, inF, evScope_c, if_pos, if_neg, Cm_some, put_plus1, thenW_n, thenW_e, thenW_r, blkW_n, blkW_e, blkW_r, if_true, q]
  refine W.seq (W.block ?_)
  refine W.use (l0) (by simp (disch := first | omega | exact getEq rfl | exact getO0 | exact Nat.le_of_ble_eq_true rfl) [came_some, goI, List.getElem?_cons_zero, List.getElem?_cons_succ, kn, keep, app_growP, app_noneP, plus_N, plus_at0, put_plus0, upd_N, upd_size, putAt, AV.cells, fillA, loadA, takeA, mk, Eff.isAll, Eff.isNone, Eff.commutes, Eff.spares, okPair, apart, eqAgg, fits, LK.fits, allEq, aveq, eqk, mmA, beqT, wrapI, idxI, tdivI, tmodI, decT, decF, ibT, ibF, inT, inF, evScope_c, if_pos, if_neg, Cm_some, put_plus1, thenW_n, thenW_e, thenW_r, blkW_n, blkW_e, blkW_r, if_true, q]) fun s1 H1 hp => ?_
  obtain ⟨rfl, q⟩ := hp
  try simp only [thenW_n, thenW_e, thenW_r, blkW_n, blkW_e, blkW_r, if_true]
  refine W.assoc ?_
  refine W.seq (W.chunk ?_)
  simp (disch := first | omega | exact getEq rfl | exact getO0 | exact Nat.le_of_ble_eq_true rfl) [c12_o16, came_some, goI, List.getElem?_cons_zero, List.getElem?_cons_succ, kn, keep, app_growP, app_noneP, plus_N, plus_at0, put_plus0, upd_N, upd_size, putAt, AV.cells, fillA, loadA, takeA, mk, Eff.isAll, Eff.isNone, Eff.commutes, Eff.spares, okPair, apart, eqAgg, fits, LK.fits, allEq, aveq, eqk, mmA, beqT, wrapI, idxI, tdivI, tmodI, decT, decF, ibT, ibF, inT, inF, evScope_c, if_pos, if_neg, Cm_some, put_plus1, thenW_n, thenW_e, thenW_r, blkW_n, blkW_e, blkW_r, if_true, q]
  refine W.seq (W.block ?_)
  refine W.use (l3) (by simp (disch := first | omega | exact getEq rfl | exact getO0 | exact Nat.le_of_ble_eq_true rfl) [came_some, goI, List.getElem?_cons_zero, List.getElem?_cons_succ, kn, keep, app_growP, app_noneP, plus_N, plus_at0, put_plus0, upd_N, upd_size, putAt, AV.cells, fillA, loadA, takeA, mk, Eff.isAll, Eff.isNone, Eff.commutes, Eff.spares, okPair, apart, eqAgg, fits, LK.fits, allEq, aveq, eqk, mmA, beqT, wrapI, idxI, tdivI, tmodI, decT, decF, ibT, ibF, inT, inF, evScope_c, if_pos, if_neg, Cm_some, put_plus1, thenW_n, thenW_e, thenW_r, blkW_n, blkW_e, blkW_r, if_true, q]) fun s1 H1 hp => ?_
  obtain ⟨rfl, q⟩ := hp
  try simp only [thenW_n, thenW_e, thenW_r, blkW_n, blkW_e, blkW_r, if_true]
  refine W.seq (W.chunk ?_)
  simp (disch := first | omega | exact getEq rfl | exact getO0 | exact Nat.le_of_ble_eq_true rfl) [c12_o29, came_some, goI, List.getElem?_cons_zero, List.getElem?_cons_succ, kn, keep, app_growP, app_noneP, plus_N, plus_at0, put_plus0, upd_N, upd_size, putAt, AV.cells, fillA, loadA, takeA, mk, Eff.isAll, Eff.isNone, Eff.commutes, Eff.spares, okPair, apart, eqAgg, fits, LK.fits, allEq, aveq, eqk, mmA, beqT, wrapI, idxI, tdivI, tmodI, decT, decF, ibT, ibF, inT, inF, evScope_c, if_pos, if_neg, Cm_some, put_plus1, thenW_n, thenW_e, thenW_r, blkW_n, blkW_e, blkW_r, if_true, q, k23]
  refine W.ret ?_
  try simp only [thenW_n, thenW_e, thenW_r, blkW_n, blkW_e, blkW_r, if_true]
  exact fin _ _ (by simp [T.get])
theorem knA : KnA T17 where
  k23 := fun h => by
    simp (disch := decide) only [T17, T16, T15, T14, T13, T12, T11, T10, T9, T8, T7, T6, T5, T4, T3, T2, T1, addI_ne, addX_ne, addV_ne, addK_ne]
    exact knR21.k23 h
  k27 := fun x n h a b => by
    simp (disch := decide) only [T17, T16, T15, T14, T13, T12, T11, T10, T9, T8, T7, T6, T5, T4, T3, addX_ne, addK_ne]
    exact k27_2 x n h a b
  k28 := fun h y M n most a b c => by
    simp (disch := decide) only [T17, T16, T15, T14, T13, T12, T11, T10, T9, T8, T7, T6, T5, T4, addX_ne, addK_ne]
    exact k28 h y M n most a b c
  k43 := fun h a ha => by
    simp (disch := decide) only [T17, addK_ne]
    exact k43 h a ha
theorem adds_ok (h : Heap) (a c d : Int) {m : AV} {M : List (List Int)} (hm : MR h m M) : CallsTo tbl T17 12 [G a, m, .agg [G c, G d]] h (.bool true, [], false) := adds_law T17 knA (fun _ _ => by simp (disch := decide) only [T17, T16, T15, T14, T13, T12, T11, T10, T9, T8, T7, T6, T5, T4, T3, T2, T1, R21, R20, R19, R18, R17, R16, R15, R14, R13, R12, R11, R10, R9, R8, R7, R6, R5, R4, R3, R2, R1, addI_ne, addX_ne, addV_ne, addK_ne]; rfl) h a c d hm

end Go.Proofs.Ytjeemgaoonapgaa.Ev
