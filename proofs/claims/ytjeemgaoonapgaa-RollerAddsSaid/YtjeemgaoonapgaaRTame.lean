/-
  What mod, less and tame answer: a matrix of the size that is asked for. No condition.
-/
import Derived.Test.YtjeemgaoonapgaaRBounds
set_option linter.unusedVariables false
set_option linter.unusedSimpArgs false
namespace Go.Proofs.Ytjeemgaoonapgaa.Ev
open Go Go.AEv

attribute [local simp] evFunc initS evOps_c evTrim_c evSkip_c evExit_c evRet_c evSeq_c evCond_c evBlock_c evDraw_c runOps_n runOps_c exec_n exec_g pure1_c act AOpd.ev T.get T.set T.put evBin evUn forceT_eq forceV_eq forceL_eq evRess evRes one keep runFP_n runFP_c app_none AV.flats AV.flat

/-! ### mod -/
def mdZ (x n : Int) : Int := (x % 18446744073709551616) % n
theorem mdZ_bd (x : Int) {n : Int} (h : 0 < n) : 0 ≤ mdZ x n ∧ mdZ x n < n := ⟨Int.emod_nonneg _ (by omega), Int.emod_lt_of_pos _ h⟩
def spec27 : SpecV
  | [.int .i64 x, .int .i64 n] => if 0 < n ∧ n < 9223372036854775808 then some (G (mdZ x n)) else none
  | _ => none
theorem wrap_u64 (n : Int) : IntKind.u64.wrap n = n % 18446744073709551616 := by
  unfold IntKind.wrap IntKind.bits IntKind.signed
  simp
theorem c27_ok (J : CallF) (hJ : ∀ a h, J 27 a h = none) (x n : Int) (h1 : 0 < n) (h2 : n < 9223372036854775808) : CallsTo tbl J 27 [G x, G n] e0 (G (mdZ x n), [], false) := by
  unfold mdZ
  refine CallsTo.plain (cf := c27) (h' := frameOf e0) (by decide) rfl (hJ _ _) rfl rfl ?_
  have w : n % 18446744073709551616 = n := Int.emod_eq_of_lt (by omega) (by omega)
  have hz : ¬ n = 0 := by omega
  have hm : (x % 18446744073709551616).tmod n = (x % 18446744073709551616) % n := Int.tmod_eq_emod_of_nonneg (Int.emod_nonneg _ (by decide))
  have a1 := Int.emod_nonneg (x % 18446744073709551616) hz
  have a2 := Int.emod_lt_of_pos (x % 18446744073709551616) h1
  simp [c27, c27_o0, c27_o1, wrap_u64, w, hz, hm, wrapI ((x % 18446744073709551616) % n) (by omega) (by omega)]
noncomputable def T1 : CallF := addV R21 27 spec27
theorem t1 : Sound Go.Proofs.Try.prog T1 := Sound.addV follows ok s21 (by decide) (fun args v h => by
  unfold spec27 at h
  split at h
  · split at h
    · rename_i hn
      simp only [Option.some.injEq] at h; subst h
      exact c27_ok R21 (fun _ _ => by
        simp (disch := decide) only [R21, R20, R19, R18, R17, R16, R15, R14, R13, R12, R11, R10, R9, R8, R7, R6, R5, R4, R3, R2, R1, addI_ne, addX_ne, addV_ne]; rfl) _ _ hn.1 hn.2
    · cases h
  · cases h)
abbrev K27 (J : CallF) : Prop := ∀ (x n : Int) (h : Heap), 0 < n → n < 9223372036854775808 → J 27 [G x, G n] h = some (G (mdZ x n), [], false)
theorem k27 : K27 T1 := fun x n h h1 h2 => by simp [T1, addV, spec27, h1, h2]

/-! ### less -/
def lessOk (a b c d : Int) : Prop := (0 ≤ a ∧ a ≤ 7200000000) ∧ (0 ≤ b ∧ b ≤ 1000000000) ∧ (0 ≤ c ∧ c ≤ 7200000000) ∧ (0 ≤ d ∧ d ≤ 1000000000)
instance (a b c d : Int) : Decidable (lessOk a b c d) := by unfold lessOk; infer_instance
def spec29 : SpecV
  | [.agg [.int .i64 a, .int .i64 b], .agg [.int .i64 c, .int .i64 d]] => if lessOk a b c d then some (.bool (decide (a * d < c * b))) else none
  | _ => none
theorem c29_ok (J : CallF) (hJ : ∀ a h, J 29 a h = none) (a b c d : Int) (hl : lessOk a b c d) : CallsTo tbl J 29 [.agg [G a, G b], .agg [G c, G d]] e0 (.bool (decide (a * d < c * b)), [], false) := by
  obtain ⟨h1, h2, h3, h4⟩ := hl
  have m1 := mul_bd h1.1 h1.2 h4.1 h4.2
  have m2 := mul_bd h3.1 h3.2 h2.1 h2.2
  refine CallsTo.plain (cf := c29) (h' := ⟨e0.get, 0, [.cells 0 2 [G a, G b], .cells 0 2 [G c, G d]]⟩) (by decide) rfl (hJ _ _) rfl rfl ?_
  simp [c29, c29_o0, c29_o1, mk, frameOf, Heap.size, e0, Eff.app, Heap.get, AV.cells, loadA, takeA, wrapI (a * d) (by omega) (by omega), wrapI (c * b) (by omega) (by omega)]
noncomputable def T2 : CallF := addV T1 29 spec29
theorem t2 : Sound Go.Proofs.Try.prog T2 := Sound.addV follows ok t1 (by decide) (fun args v h => by
  unfold spec29 at h
  split at h
  · split at h
    · rename_i hn
      simp only [Option.some.injEq] at h; subst h
      exact c29_ok T1 (fun _ _ => by
        simp (disch := decide) only [T1, R21, R20, R19, R18, R17, R16, R15, R14, R13, R12, R11, R10, R9, R8, R7, R6, R5, R4, R3, R2, R1, addI_ne, addX_ne, addV_ne]; rfl) _ _ _ _ hn
    · cases h
  · cases h)
theorem k27_2 : K27 T2 := fun x n h h1 h2 => by
  simp (disch := decide) only [T2, addV_ne]
  exact k27 x n h h1 h2

/-! ### tame -/
section
variable {n : Nat} {most : Int} {M : List (List Int)}
abbrev L28a : List Path := [[], [false], [true], [false, false, false], [true, false, false], [false, true, false], [true, true, false]]
abbrev L28b : List Path := [[], [false], [true], [false, false, false], [true, false, false]]
/-- A row that is in the making. -/
structure Row (h H : Heap) (n : Nat) (most : Int) : Prop where
  k : Kp (fun _ => False) h H
  g : ∃ L : List Int, L.length = n ∧ allIn 0 most L = true ∧ H.get h.size = .cells 1 n (gs L)
theorem allIn_set {lo hi : Int} {A : List Int} (h : allIn lo hi A = true) (i : Nat) {x : Int} (hx : lo ≤ x ∧ x ≤ hi) : allIn lo hi (A.set i x) = true := by
  unfold allIn at h ⊢
  rw [List.all_eq_true] at h ⊢
  intro a ha
  rcases List.mem_or_eq_of_mem_set ha with q | q
  · exact h a q
  · subst q; simpa using hx
theorem Row.set {h H : Heap} (r : Row h H n most) {i : Nat} (hi : i < n) {x : Int} (hx : 0 ≤ x ∧ x ≤ most) : ∃ H', Eff.app (.put h.size n i [G x]) H = some H' ∧ Row h H' n most := by
  obtain ⟨L, l1, l2, g⟩ := r.g
  have hN : H.N ≤ h.size := by rw [r.k.N]; unfold Heap.size; omega
  refine ⟨_, put_gen H h.size n i 1 (gs L) [G x] hN g (by simp [l1]; omega), ⟨r.k.updn _ _ hN (Nat.le_refl _), L.set i x, by simp [l1], allIn_set l2 i hx, ?_⟩⟩
  rw [upd_same _ _ _ hN (get_lt g (by simp))]
  simp [putAt, gs]
theorem n28_step (J : CallF) (k27 : K27 J) {h H : Heap} {b v rb rv i j m : Nat} {cs cr : List AV} {w : AV} {x : Int} (r : Row h H n most) (g : H.get b = .cells 1 v cs) (er : cs[i]? = some (.slice rb 0 m rv)) (gr : H.get rb = .cells 1 rv cr) (ex : cr[j]? = some (G x)) (N : Nat) (hi : i < N) (hj : j < n) (hjm : j < m) (h8 : n ≤ 8) (hm : 0 ≤ most ∧ most ≤ 9) (hiN : i < 8) :
    Tr tbl J (.trim L28a c28_b0) (fun s h' => s.get [] = .slice b 0 N v ∧ s.get [false] = G n ∧ s.get [true] = G most ∧ s.get [false, false, false] = w ∧ s.get [true, false, false] = G i ∧ s.get [false, true, false] = .slice h.size 0 n n ∧ s.get [true, true, false] = G j ∧ h' = H) .normal
      (fun s h' => s.get [] = .slice b 0 N v ∧ s.get [false] = G n ∧ s.get [true] = G most ∧ s.get [false, false, false] = w ∧ s.get [true, false, false] = G i ∧ s.get [false, true, false] = .slice h.size 0 n n ∧ s.get [true, true, false] = G ((j + 1 : Nat) : Int) ∧ Row h h' n most) := by
  have er' : ∀ h : i < cs.length, cs[i] = .slice rb 0 m rv := fun h => by rw [List.getElem?_eq_getElem h] at er; exact Option.some.inj er
  have ex' : ∀ h : j < cr.length, cr[j] = G x := fun h => by rw [List.getElem?_eq_getElem h] at ex; exact Option.some.inj ex
  have kk := fun h => k27 x (most + 1) h (by omega) (by omega)
  have hmd := mdZ_bd x (show 0 < most + 1 by omega)
  by_cases c : x < 0
  · obtain ⟨H', p, r'⟩ := r.set hj (x := mdZ x (most + 1)) (by omega)
    have t : Tr tbl J ((.trim L28a c28_b0)) (fun s h' => s.get [] = .slice b 0 N v ∧ s.get [false] = G n ∧ s.get [true] = G most ∧ s.get [false, false, false] = w ∧ s.get [true, false, false] = G i ∧ s.get [false, true, false] = .slice h.size 0 n n ∧ s.get [true, true, false] = G j ∧ h' = H) .normal (fun s h' => s.get [] = .slice b 0 N v ∧ s.get [false] = G n ∧ s.get [true] = G most ∧ s.get [false, false, false] = w ∧ s.get [true, false, false] = G i ∧ s.get [false, true, false] = .slice h.size 0 n n ∧ s.get [true, true, false] = G ((j + 1 : Nat) : Int) ∧ h' = H') := Tr.region fun s h hp => by
      obtain ⟨g0, g1, g2, g3, g4, g5, g6, rfl⟩ := hp
      simp (disch := first | omega | exact getEq rfl | exact getO0 | exact Nat.le_of_ble_eq_true rfl) [c28_b0, c28_o6, c28_o7, c28_o8, c28_o9, c28_o10, c28_o11, came_some, goI, List.getElem?_cons_zero, List.getElem?_cons_succ, kn, keep, app_growP, app_noneP, plus_N, plus_at0, put_plus0, upd_N, upd_size, putAt, AV.cells, fillA, loadA, takeA, mk, Eff.isAll, Eff.isNone, Eff.commutes, Eff.spares, okPair, apart, eqAgg, fits, LK.fits, allEq, aveq, eqk, mmA, beqT, wrapI, idxI, tdivI, tmodI, decT, decF, ibT, ibF, inT, inF, evScope_c, if_pos, if_neg, g0, g1, g2, g3, g4, g5, g6, g, gr, er, er', ex, ex', kk, p, c]
    exact Tr.post (fun s h q => ⟨q.1, q.2.1, q.2.2.1, q.2.2.2.1, q.2.2.2.2.1, q.2.2.2.2.2.1, q.2.2.2.2.2.2.1, by rw [q.2.2.2.2.2.2.2]; exact r'⟩) t
  · by_cases c2 : most < x
    · obtain ⟨H', p, r'⟩ := r.set hj (x := mdZ x (most + 1)) (by omega)
      have t : Tr tbl J ((.trim L28a c28_b0)) (fun s h' => s.get [] = .slice b 0 N v ∧ s.get [false] = G n ∧ s.get [true] = G most ∧ s.get [false, false, false] = w ∧ s.get [true, false, false] = G i ∧ s.get [false, true, false] = .slice h.size 0 n n ∧ s.get [true, true, false] = G j ∧ h' = H) .normal (fun s h' => s.get [] = .slice b 0 N v ∧ s.get [false] = G n ∧ s.get [true] = G most ∧ s.get [false, false, false] = w ∧ s.get [true, false, false] = G i ∧ s.get [false, true, false] = .slice h.size 0 n n ∧ s.get [true, true, false] = G ((j + 1 : Nat) : Int) ∧ h' = H') := Tr.region fun s h hp => by
        obtain ⟨g0, g1, g2, g3, g4, g5, g6, rfl⟩ := hp
        simp (disch := first | omega | exact getEq rfl | exact getO0 | exact Nat.le_of_ble_eq_true rfl) [c28_b0, c28_o6, c28_o7, c28_o8, c28_o9, c28_o10, c28_o11, came_some, goI, List.getElem?_cons_zero, List.getElem?_cons_succ, kn, keep, app_growP, app_noneP, plus_N, plus_at0, put_plus0, upd_N, upd_size, putAt, AV.cells, fillA, loadA, takeA, mk, Eff.isAll, Eff.isNone, Eff.commutes, Eff.spares, okPair, apart, eqAgg, fits, LK.fits, allEq, aveq, eqk, mmA, beqT, wrapI, idxI, tdivI, tmodI, decT, decF, ibT, ibF, inT, inF, evScope_c, if_pos, if_neg, g0, g1, g2, g3, g4, g5, g6, g, gr, er, er', ex, ex', kk, p, c, c2]
      exact Tr.post (fun s h q => ⟨q.1, q.2.1, q.2.2.1, q.2.2.2.1, q.2.2.2.2.1, q.2.2.2.2.2.1, q.2.2.2.2.2.2.1, by rw [q.2.2.2.2.2.2.2]; exact r'⟩) t
    · obtain ⟨H', p, r'⟩ := r.set hj (x := x) (by omega)
      have t : Tr tbl J ((.trim L28a c28_b0)) (fun s h' => s.get [] = .slice b 0 N v ∧ s.get [false] = G n ∧ s.get [true] = G most ∧ s.get [false, false, false] = w ∧ s.get [true, false, false] = G i ∧ s.get [false, true, false] = .slice h.size 0 n n ∧ s.get [true, true, false] = G j ∧ h' = H) .normal (fun s h' => s.get [] = .slice b 0 N v ∧ s.get [false] = G n ∧ s.get [true] = G most ∧ s.get [false, false, false] = w ∧ s.get [true, false, false] = G i ∧ s.get [false, true, false] = .slice h.size 0 n n ∧ s.get [true, true, false] = G ((j + 1 : Nat) : Int) ∧ h' = H') := Tr.region fun s h hp => by
        obtain ⟨g0, g1, g2, g3, g4, g5, g6, rfl⟩ := hp
        simp (disch := first | omega | exact getEq rfl | exact getO0 | exact Nat.le_of_ble_eq_true rfl) [c28_b0, c28_o6, c28_o7, c28_o8, c28_o9, c28_o10, c28_o11, came_some, goI, List.getElem?_cons_zero, List.getElem?_cons_succ, kn, keep, app_growP, app_noneP, plus_N, plus_at0, put_plus0, upd_N, upd_size, putAt, AV.cells, fillA, loadA, takeA, mk, Eff.isAll, Eff.isNone, Eff.commutes, Eff.spares, okPair, apart, eqAgg, fits, LK.fits, allEq, aveq, eqk, mmA, beqT, wrapI, idxI, tdivI, tmodI, decT, decF, ibT, ibF, inT, inF, evScope_c, if_pos, if_neg, g0, g1, g2, g3, g4, g5, g6, g, gr, er, er', ex, ex', p, c, c2]
      exact Tr.post (fun s h q => ⟨q.1, q.2.1, q.2.2.1, q.2.2.2.1, q.2.2.2.2.1, q.2.2.2.2.2.1, q.2.2.2.2.2.2.1, by rw [q.2.2.2.2.2.2.2]; exact r'⟩) t
/-- How many numbers of row i are taken. -/
def tkn (M : List (List Int)) (n i : Nat) : Nat := min n (M.getD i []).length
theorem n28_end (J : CallF) {h H : Heap} {y w : AV} {i : Nat} (hy : MR H y M) (h8 : n ≤ 8) (hi : i < n) :
    Tr tbl J (.trim L28a c28_b0) (fun s h' => s.get [] = y ∧ s.get [false] = G n ∧ s.get [true] = G most ∧ s.get [false, false, false] = w ∧ s.get [true, false, false] = G i ∧ s.get [false, true, false] = .slice h.size 0 n n ∧ s.get [true, true, false] = G (tkn M n i) ∧ h' = H) (.exit 2)
      (fun s h' => s.get [] = y ∧ s.get [false] = G n ∧ s.get [true] = G most ∧ s.get [false, false, false] = w ∧ s.get [true, false, false] = G i ∧ s.get [false, true, false] = .slice h.size 0 n n ∧ h' = H) := by
  by_cases hM : i < M.length
  · obtain ⟨b, v, cs, r, rfl, g, er, hr⟩ := hy.row hM
    have er' : ∀ h : i < cs.length, cs[i] = r := fun h => by rw [List.getElem?_eq_getElem h] at er; exact Option.some.inj er
    have hs := LR.sl hr
    unfold tkn
    generalize (M.getD i []).length = m at *
    generalize M.length = N at *
    by_cases c : m < n
    · rw [Nat.min_eq_right (by omega)]
      have t : Tr tbl J ((.trim L28a c28_b0)) (fun s h' => s.get [] = .slice b 0 N v ∧ s.get [false] = G n ∧ s.get [true] = G most ∧ s.get [false, false, false] = w ∧ s.get [true, false, false] = G i ∧ s.get [false, true, false] = .slice h.size 0 n n ∧ s.get [true, true, false] = G m ∧ h' = H) (.exit 2) (fun s h' => s.get [] = .slice b 0 N v ∧ s.get [false] = G n ∧ s.get [true] = G most ∧ s.get [false, false, false] = w ∧ s.get [true, false, false] = G i ∧ s.get [false, true, false] = .slice h.size 0 n n ∧ h' = H) := Tr.region fun s h hp => by
        obtain ⟨g0, g1, g2, g3, g4, g5, g6, rfl⟩ := hp
        rcases hs with ⟨rfl, rfl⟩ | ⟨rfl, rfl⟩ | ⟨b', v', rfl⟩ <;> simp (disch := first | omega | exact getEq rfl | exact getO0 | exact Nat.le_of_ble_eq_true rfl) [c28_b0, c28_o6, came_some, goI, List.getElem?_cons_zero, List.getElem?_cons_succ, kn, keep, app_growP, app_noneP, plus_N, plus_at0, put_plus0, upd_N, upd_size, putAt, AV.cells, fillA, loadA, takeA, mk, Eff.isAll, Eff.isNone, Eff.commutes, Eff.spares, okPair, apart, eqAgg, fits, LK.fits, allEq, aveq, eqk, mmA, beqT, wrapI, idxI, tdivI, tmodI, decT, decF, ibT, ibF, inT, inF, evScope_c, if_pos, if_neg, g0, g1, g2, g3, g4, g5, g6, g, er, er']
      exact t
    · rw [Nat.min_eq_left (by omega)]
      have t : Tr tbl J ((.trim L28a c28_b0)) (fun s h' => s.get [] = .slice b 0 N v ∧ s.get [false] = G n ∧ s.get [true] = G most ∧ s.get [false, false, false] = w ∧ s.get [true, false, false] = G i ∧ s.get [false, true, false] = .slice h.size 0 n n ∧ s.get [true, true, false] = G n ∧ h' = H) (.exit 2) (fun s h' => s.get [] = .slice b 0 N v ∧ s.get [false] = G n ∧ s.get [true] = G most ∧ s.get [false, false, false] = w ∧ s.get [true, false, false] = G i ∧ s.get [false, true, false] = .slice h.size 0 n n ∧ h' = H) := Tr.region fun s h hp => by
        obtain ⟨g0, g1, g2, g3, g4, g5, g6, rfl⟩ := hp
        simp (disch := first | omega | exact getEq rfl | exact getO0 | exact Nat.le_of_ble_eq_true rfl) [c28_b0, c28_o6, came_some, goI, List.getElem?_cons_zero, List.getElem?_cons_succ, kn, keep, app_growP, app_noneP, plus_N, plus_at0, put_plus0, upd_N, upd_size, putAt, AV.cells, fillA, loadA, takeA, mk, Eff.isAll, Eff.isNone, Eff.commutes, Eff.spares, okPair, apart, eqAgg, fits, LK.fits, allEq, aveq, eqk, mmA, beqT, wrapI, idxI, tdivI, tmodI, decT, decF, ibT, ibF, inT, inF, evScope_c, if_pos, if_neg, g0, g1, g2, g3, g4, g5, g6]
      exact t
  · have h0 : tkn M n i = 0 := by
      unfold tkn
      rw [List.getD_eq_getElem?_getD, List.getElem?_eq_none (by omega)]
      simp
    rw [h0]
    have hs := hy.sl
    generalize M.length = N at *
    have t : Tr tbl J ((.trim L28a c28_b0)) (fun s h' => s.get [] = y ∧ s.get [false] = G n ∧ s.get [true] = G most ∧ s.get [false, false, false] = w ∧ s.get [true, false, false] = G i ∧ s.get [false, true, false] = .slice h.size 0 n n ∧ s.get [true, true, false] = G ((0 : Nat) : Int) ∧ h' = H) (.exit 2) (fun s h' => s.get [] = y ∧ s.get [false] = G n ∧ s.get [true] = G most ∧ s.get [false, false, false] = w ∧ s.get [true, false, false] = G i ∧ s.get [false, true, false] = .slice h.size 0 n n ∧ h' = H) := Tr.region fun s h hp => by
      obtain ⟨g0, g1, g2, g3, g4, g5, g6, rfl⟩ := hp
      rcases hs with ⟨rfl, rfl⟩ | ⟨rfl, rfl⟩ | ⟨b', v', rfl⟩ <;> simp (disch := first | omega | exact getEq rfl | exact getO0 | exact Nat.le_of_ble_eq_true rfl) [c28_b0, c28_o6, came_some, goI, List.getElem?_cons_zero, List.getElem?_cons_succ, kn, keep, app_growP, app_noneP, plus_N, plus_at0, put_plus0, upd_N, upd_size, putAt, AV.cells, fillA, loadA, takeA, mk, Eff.isAll, Eff.isNone, Eff.commutes, Eff.spares, okPair, apart, eqAgg, fits, LK.fits, allEq, aveq, eqk, mmA, beqT, wrapI, idxI, tdivI, tmodI, decT, decF, ibT, ibF, inT, inF, evScope_c, if_pos, if_neg, g0, g1, g2, g3, g4, g5, g6]
    exact t
theorem n28_in (J : CallF) (k27 : K27 J) {h H : Heap} {y w : AV} {i : Nat} (hy : MR h y M) (r : Row h H n most) (h8 : n ≤ 8) (hm : 0 ≤ most ∧ most ≤ 9) (hi : i < n) :
    Tr tbl J (.seq c28_o5 (.block 2 c28_l0)) (fun s h' => s.get [] = y ∧ s.get [false] = G n ∧ s.get [true] = G most ∧ s.get [false, false, false] = w ∧ s.get [true, false, false] = G i ∧ s.get [false, true, false] = .slice h.size 0 n n ∧ h' = H) .normal
      (fun s h' => s.get [] = y ∧ s.get [false] = G n ∧ s.get [true] = G most ∧ s.get [false, false, false] = w ∧ s.get [true, false, false] = G i ∧ s.get [false, true, false] = .slice h.size 0 n n ∧ Row h h' n most) := by
  have t0 : Tr tbl J (c28_o5) (fun s h' => s.get [] = y ∧ s.get [false] = G n ∧ s.get [true] = G most ∧ s.get [false, false, false] = w ∧ s.get [true, false, false] = G i ∧ s.get [false, true, false] = .slice h.size 0 n n ∧ h' = H) .normal (fun s h' => s.get [] = y ∧ s.get [false] = G n ∧ s.get [true] = G most ∧ s.get [false, false, false] = w ∧ s.get [true, false, false] = G i ∧ s.get [false, true, false] = .slice h.size 0 n n ∧ s.get [true, true, false] = G ((0 : Nat) : Int) ∧ h' = H) := Tr.region fun s h hp => by
    obtain ⟨g0, g1, g2, g3, g4, g5, rfl⟩ := hp
    simp (disch := first | omega | exact getEq rfl | exact getO0 | exact Nat.le_of_ble_eq_true rfl) [c28_o5, came_some, goI, List.getElem?_cons_zero, List.getElem?_cons_succ, kn, keep, app_growP, app_noneP, plus_N, plus_at0, put_plus0, upd_N, upd_size, putAt, AV.cells, fillA, loadA, takeA, mk, Eff.isAll, Eff.isNone, Eff.commutes, Eff.spares, okPair, apart, eqAgg, fits, LK.fits, allEq, aveq, eqk, mmA, beqT, wrapI, idxI, tdivI, tmodI, decT, decF, ibT, ibF, inT, inF, evScope_c, if_pos, if_neg, g0, g1, g2, g3, g4, g5]
  have tl := Tr.rounds (tbl := tbl) (I := J) (live := L28a) (c := c28_b0) (e := .exit 2) (M := tkn M n i)
    (P := fun j s h' => s.get [] = y ∧ s.get [false] = G n ∧ s.get [true] = G most ∧ s.get [false, false, false] = w ∧ s.get [true, false, false] = G i ∧ s.get [false, true, false] = .slice h.size 0 n n ∧ s.get [true, true, false] = G j ∧ Row h h' n most)
    (Q := fun s h' => s.get [] = y ∧ s.get [false] = G n ∧ s.get [true] = G most ∧ s.get [false, false, false] = w ∧ s.get [true, false, false] = G i ∧ s.get [false, true, false] = .slice h.size 0 n n ∧ Row h h' n most)
    (fun j hj => Tr.fix (F := fun H => Row h H n most) (P' := fun H s h' => s.get [] = y ∧ s.get [false] = G n ∧ s.get [true] = G most ∧ s.get [false, false, false] = w ∧ s.get [true, false, false] = G i ∧ s.get [false, true, false] = .slice h.size 0 n n ∧ s.get [true, true, false] = G j ∧ h' = H)
      (fun H r => by
        have hj2 : j < n ∧ j < (M.getD i []).length := by unfold tkn at hj; omega
        have hM : i < M.length := by
          apply Nat.lt_of_not_le
          intro q
          have := hj2.2
          rw [List.getD_eq_getElem?_getD, List.getElem?_eq_none (by omega)] at this
          simp at this
        obtain ⟨b, v, cs, ro, rfl, g, er, hr⟩ := (hy.kp r.k).row hM
        rcases hr.cases with ⟨_, q⟩ | ⟨_, q⟩ | ⟨rb, rv, rfl, gr⟩
        · rw [q] at hj2; simp at hj2
        · rw [q] at hj2; simp at hj2
        · exact n28_step J k27 (x := (M.getD i []).getD j 0) r g er gr (by rw [lf_of (M.getD i []), gl_at _ hj2.2, lf_getD _ hj2.2]) M.length hM hj2.1 hj2.2 h8 hm (by omega)) (fun s h' q => ⟨q.2.2.2.2.2.2.2, q.1, q.2.1, q.2.2.1, q.2.2.2.1, q.2.2.2.2.1, q.2.2.2.2.2.1, q.2.2.2.2.2.2.1, rfl⟩))
    (Tr.fix (F := fun H => Row h H n most) (P' := fun H s h' => s.get [] = y ∧ s.get [false] = G n ∧ s.get [true] = G most ∧ s.get [false, false, false] = w ∧ s.get [true, false, false] = G i ∧ s.get [false, true, false] = .slice h.size 0 n n ∧ s.get [true, true, false] = G (tkn M n i) ∧ h' = H)
      (fun H r => Tr.post (fun s h' q => ⟨q.1, q.2.1, q.2.2.1, q.2.2.2.1, q.2.2.2.2.1, q.2.2.2.2.2.1, by rw [q.2.2.2.2.2.2]; exact r⟩) (n28_end J (hy.kp r.k) h8 hi)) (fun s h' q => ⟨q.2.2.2.2.2.2.2, q.1, q.2.1, q.2.2.1, q.2.2.2.1, q.2.2.2.2.1, q.2.2.2.2.2.1, q.2.2.2.2.2.2.1, rfl⟩))
    (by simp) 0 (by omega)
  exact Tr.seq t0 (Tr.block (Tr.pre (fun s h' q => ⟨q.1, q.2.1, q.2.2.1, q.2.2.2.1, q.2.2.2.2.1, q.2.2.2.2.2.1, q.2.2.2.2.2.2.1, by rw [q.2.2.2.2.2.2.2]; exact r⟩) tl))
/-- Rows of n numbers from 0 to most. -/
def sqM (n : Nat) (most : Int) (N : List (List Int)) : Prop := ∀ l ∈ N, l.length = n ∧ allIn 0 most l = true
theorem n28_row (J : CallF) (k27 : K27 J) {H0 H : Heap} {y w : AV} {i : Nat} {N : List (List Int)} (hy : MR H0 y M) (tg : TG H0 H w N) (hN : N.length = i) (hq : sqM n most N) (h8 : n ≤ 8) (hm : 0 ≤ most ∧ most ≤ 9) (hi : i < n) :
    Tr tbl J (.trim L28b c28_b1) (fun s h => s.get [] = y ∧ s.get [false] = G n ∧ s.get [true] = G most ∧ s.get [false, false, false] = w ∧ s.get [true, false, false] = G i ∧ h = H) .normal
      (fun s h' => ∃ w' N', (s.get [] = y ∧ s.get [false] = G n ∧ s.get [true] = G most ∧ s.get [false, false, false] = w' ∧ s.get [true, false, false] = G ((i + 1 : Nat) : Int)) ∧ TG H0 h' w' N' ∧ N'.length = i + 1 ∧ sqM n most N') := by
  have ta : Tr tbl J ((.trim L28b (.seq c28_o3 (.cond (.s [true, true, true]) .skip (.exit 0))))) (fun s h => s.get [] = y ∧ s.get [false] = G n ∧ s.get [true] = G most ∧ s.get [false, false, false] = w ∧ s.get [true, false, false] = G i ∧ h = H) .normal (fun s h => s.get [] = y ∧ s.get [false] = G n ∧ s.get [true] = G most ∧ s.get [false, false, false] = w ∧ s.get [true, false, false] = G i ∧ h = H) := Tr.region fun s h hp => by
    obtain ⟨g0, g1, g2, g3, g4, rfl⟩ := hp
    simp (disch := first | omega | exact getEq rfl | exact getO0 | exact Nat.le_of_ble_eq_true rfl) [c28_o3, came_some, goI, List.getElem?_cons_zero, List.getElem?_cons_succ, kn, keep, app_growP, app_noneP, plus_N, plus_at0, put_plus0, upd_N, upd_size, putAt, AV.cells, fillA, loadA, takeA, mk, Eff.isAll, Eff.isNone, Eff.commutes, Eff.spares, okPair, apart, eqAgg, fits, LK.fits, allEq, aveq, eqk, mmA, beqT, wrapI, idxI, tdivI, tmodI, decT, decF, ibT, ibF, inT, inF, evScope_c, if_pos, if_neg, g0, g1, g2, g3, g4]
  have m1 := fun h => mkSl_ok h 8 (AV.int .i64 0) n n rfl (by omega)
  have tb : Tr tbl J (c28_o4) (fun s h => s.get [] = y ∧ s.get [false] = G n ∧ s.get [true] = G most ∧ s.get [false, false, false] = w ∧ s.get [true, false, false] = G i ∧ h = H) .normal (fun s h => s.get [] = y ∧ s.get [false] = G n ∧ s.get [true] = G most ∧ s.get [false, false, false] = w ∧ s.get [true, false, false] = G i ∧ s.get [false, true, false] = .slice H.size 0 n n ∧ h = H.plus [.cells 1 n (List.replicate n (.int .i64 0))]) := Tr.region fun s h hp => by
    obtain ⟨g0, g1, g2, g3, g4, rfl⟩ := hp
    simp (disch := first | omega | exact getEq rfl | exact getO0 | exact Nat.le_of_ble_eq_true rfl) [-act, -List.reduceReplicate, c28_o4, came_some, goI, List.getElem?_cons_zero, List.getElem?_cons_succ, kn, keep, app_growP, app_noneP, plus_N, plus_at0, put_plus0, upd_N, upd_size, putAt, AV.cells, fillA, loadA, takeA, mk, Eff.isAll, Eff.isNone, Eff.commutes, Eff.spares, okPair, apart, eqAgg, fits, LK.fits, allEq, aveq, eqk, mmA, beqT, wrapI, idxI, tdivI, tmodI, decT, decF, ibT, ibF, inT, inF, evScope_c, if_pos, if_neg, g0, g1, g2, g3, g4, act_mkSl, act_move, m1]
  have r0 : Row H (H.plus [.cells 1 n (List.replicate n (.int .i64 0))]) n most := by
    refine ⟨Kp.plus _ _, lf (fun _ => 0) n, lf_len _ _, ?_, ?_⟩
    · unfold allIn
      rw [List.all_eq_true]
      intro a ha
      obtain ⟨_, _, rfl⟩ := List.mem_map.1 ha
      simpa using hm.1
    · rw [← gl_rep]; exact plus_at0 _ _ _ _ rfl
  have tc := n28_in J k27 (w := w) (hy.kp tg.k) r0 h8 hm hi
  refine Tr.trim_seq ta (Tr.seq (Tr.block_out (Tr.seq tb (Tr.seq tc (Q := fun s h' => ∃ w' N', (s.get [] = y ∧ s.get [false] = G n ∧ s.get [true] = G most ∧ s.get [false, false, false] = w' ∧ s.get [true, false, false] = G i) ∧ TG H0 h' w' N' ∧ N'.length = i + 1 ∧ sqM n most N') ?_)) (by simp)) ?_)
  · refine Tr.fix (F := fun H2 => Row H H2 n most) (P' := fun H2 s h' => s.get [] = y ∧ s.get [false] = G n ∧ s.get [true] = G most ∧ s.get [false, false, false] = w ∧ s.get [true, false, false] = G i ∧ s.get [false, true, false] = .slice H.size 0 n n ∧ h' = H2) (fun H2 r => ?_) (fun s h' q => ⟨q.2.2.2.2.2.2, q.1, q.2.1, q.2.2.1, q.2.2.2.1, q.2.2.2.2.1, q.2.2.2.2.2.1, rfl⟩)
    obtain ⟨L, l1, l2, g⟩ := r.g
    have hL : listOf H2 (.slice H.size 0 n n) = some L := listOf_cells g l1
    obtain ⟨cs, lv, _⟩ := tg.r
    obtain ⟨w', e, H3, q1, q2, q3, q4⟩ := (tg.kp r.k).app H2.size hL (fun q hq => by
      cases hq
      exact ⟨fun e => by have := lv.lt e; omega, tg.k.size⟩) (by rw [hN]; omega)
    have f1 : (H2.plus [.cells 1 1 [.slice H.size 0 n n]]).get H2.size = .cells 1 1 [.slice H.size 0 n n] := plus_at0 _ _ _ _ rfl
    generalize H.size = rb at *
    have t : Tr tbl J (c28_o12) (fun s h => s.get [] = y ∧ s.get [false] = G n ∧ s.get [true] = G most ∧ s.get [false, false, false] = w ∧ s.get [true, false, false] = G i ∧ s.get [false, true, false] = .slice rb 0 n n ∧ h = H2) .normal (fun s h => s.get [] = y ∧ s.get [false] = G n ∧ s.get [true] = G most ∧ s.get [false, false, false] = w' ∧ s.get [true, false, false] = G i ∧ h = H3) := Tr.region fun s h hp => by
      obtain ⟨g0, g1, g2, g3, g4, g5, rfl⟩ := hp
      simp (disch := first | omega | exact getEq rfl | exact getO0 | exact Nat.le_of_ble_eq_true rfl) [c28_o12, came_some, goI, List.getElem?_cons_zero, List.getElem?_cons_succ, kn, keep, app_growP, app_noneP, plus_N, plus_at0, put_plus0, upd_N, upd_size, putAt, AV.cells, fillA, loadA, takeA, mk, Eff.isAll, Eff.isNone, Eff.commutes, Eff.spares, okPair, apart, eqAgg, fits, LK.fits, allEq, aveq, eqk, mmA, beqT, wrapI, idxI, tdivI, tmodI, decT, decF, ibT, ibF, inT, inF, evScope_c, if_pos, if_neg, g0, g1, g2, g3, g4, g5, elems, rdOf, f1, q1, q2]
    refine Tr.post (fun s h' q => ⟨w', N ++ [L], ⟨q.1, q.2.1, q.2.2.1, q.2.2.2.1, q.2.2.2.2.1⟩, by rw [q.2.2.2.2.2]; exact q3, by simp [hN], fun l hl => ?_⟩) t
    rcases List.mem_append.1 hl with a | a
    · exact hq l a
    · obtain rfl : l = L := by simpa using a
      exact ⟨l1, l2⟩
  · refine Tr.exx fun w' => Tr.exx fun N' => Tr.fix (F := fun H2 => TG H0 H2 w' N' ∧ N'.length = i + 1 ∧ sqM n most N') (P' := fun H2 s h' => s.get [] = y ∧ s.get [false] = G n ∧ s.get [true] = G most ∧ s.get [false, false, false] = w' ∧ s.get [true, false, false] = G i ∧ h' = H2) (fun H2 r => ?_) (fun s h' q => ⟨q.2, q.1.1, q.1.2.1, q.1.2.2.1, q.1.2.2.2.1, q.1.2.2.2.2, rfl⟩)
    have t : Tr tbl J (c28_o13) (fun s h => s.get [] = y ∧ s.get [false] = G n ∧ s.get [true] = G most ∧ s.get [false, false, false] = w' ∧ s.get [true, false, false] = G i ∧ h = H2) .normal (fun s h => s.get [] = y ∧ s.get [false] = G n ∧ s.get [true] = G most ∧ s.get [false, false, false] = w' ∧ s.get [true, false, false] = G ((i + 1 : Nat) : Int) ∧ h = H2) := Tr.region fun s h hp => by
      obtain ⟨g0, g1, g2, g3, g4, rfl⟩ := hp
      simp (disch := first | omega | exact getEq rfl | exact getO0 | exact Nat.le_of_ble_eq_true rfl) [c28_o13, came_some, goI, List.getElem?_cons_zero, List.getElem?_cons_succ, kn, keep, app_growP, app_noneP, plus_N, plus_at0, put_plus0, upd_N, upd_size, putAt, AV.cells, fillA, loadA, takeA, mk, Eff.isAll, Eff.isNone, Eff.commutes, Eff.spares, okPair, apart, eqAgg, fits, LK.fits, allEq, aveq, eqk, mmA, beqT, wrapI, idxI, tdivI, tmodI, decT, decF, ibT, ibF, inT, inF, evScope_c, if_pos, if_neg, g0, g1, g2, g3, g4]
    exact Tr.post (fun s h' q => ⟨w', N', ⟨q.1, q.2.1, q.2.2.1, q.2.2.2.1, q.2.2.2.2.1⟩, by rw [q.2.2.2.2.2]; exact r⟩) t
theorem c28_ok (J : CallF) (k27 : K27 J) (hJ : ∀ a h, J 28 a h = none) (h : Heap) {y : AV} (hy : MR h y M) (h8 : n ≤ 8) (hm : 0 ≤ most ∧ most ≤ 9) :
    ∃ v own, CallsTo tbl J 28 [y, G n, G most] h (v, own, false) ∧ ∃ N, TG h (h.plus own) v N ∧ N.length = n ∧ sqM n most N := by
  refine Tr.fny (cf := c28) (e := .ret) (s := T.set (T.set (T.set .leaf [] y) [false] (G n)) [true] (G most)) (by decide) rfl (hJ _ _) rfl rfl (by simp) ?_
  have hy0 : MR (frameOf h) y M := hy.lo []
  have t0 : Tr tbl J ((.seq c28_o0 c28_o1)) (fun s h' => s = T.set (T.set (T.set .leaf [] y) [false] (G n)) [true] (G most) ∧ h' = frameOf h) .normal (fun s h' => s.get [] = y ∧ s.get [false] = G n ∧ s.get [true] = G most ∧ s.get [false, false, false] = .nils ∧ h' = frameOf h) := Tr.region fun s h hp => by
    obtain ⟨rfl, rfl⟩ := hp
    simp (disch := first | omega | exact getEq rfl | exact getO0 | exact Nat.le_of_ble_eq_true rfl) [c28_o0, c28_o1, came_some, goI, List.getElem?_cons_zero, List.getElem?_cons_succ, kn, keep, app_growP, app_noneP, plus_N, plus_at0, put_plus0, upd_N, upd_size, putAt, AV.cells, fillA, loadA, takeA, mk, Eff.isAll, Eff.isNone, Eff.commutes, Eff.spares, okPair, apart, eqAgg, fits, LK.fits, allEq, aveq, eqk, mmA, beqT, wrapI, idxI, tdivI, tmodI, decT, decF, ibT, ibF, inT, inF, evScope_c, if_pos, if_neg]
  have t00 : Tr tbl J (c28_o2) (fun s h' => s.get [] = y ∧ s.get [false] = G n ∧ s.get [true] = G most ∧ s.get [false, false, false] = .nils ∧ h' = frameOf h) .normal (fun s h' => s.get [] = y ∧ s.get [false] = G n ∧ s.get [true] = G most ∧ s.get [false, false, false] = .nils ∧ s.get [true, false, false] = G ((0 : Nat) : Int) ∧ h' = frameOf h) := Tr.region fun s h hp => by
    obtain ⟨g0, g1, g2, g3, rfl⟩ := hp
    simp (disch := first | omega | exact getEq rfl | exact getO0 | exact Nat.le_of_ble_eq_true rfl) [c28_o2, came_some, goI, List.getElem?_cons_zero, List.getElem?_cons_succ, kn, keep, app_growP, app_noneP, plus_N, plus_at0, put_plus0, upd_N, upd_size, putAt, AV.cells, fillA, loadA, takeA, mk, Eff.isAll, Eff.isNone, Eff.commutes, Eff.spares, okPair, apart, eqAgg, fits, LK.fits, allEq, aveq, eqk, mmA, beqT, wrapI, idxI, tdivI, tmodI, decT, decF, ibT, ibF, inT, inF, evScope_c, if_pos, if_neg, g0, g1, g2, g3]
  have tl := Tr.rounds (tbl := tbl) (I := J) (live := L28b) (c := c28_b1) (e := .exit 0) (M := n)
    (P := fun i s h' => ∃ w N, (s.get [] = y ∧ s.get [false] = G n ∧ s.get [true] = G most ∧ s.get [false, false, false] = w ∧ s.get [true, false, false] = G (i : Nat)) ∧ TG (frameOf h) h' w N ∧ N.length = i ∧ sqM n most N)
    (Q := fun s h' => ∃ w N, (s.get [false, false, false] = w) ∧ TG (frameOf h) h' w N ∧ N.length = n ∧ sqM n most N)
    (fun i hi => Tr.exx fun w => Tr.exx fun N => Tr.fix (F := fun H => TG (frameOf h) H w N ∧ N.length = i ∧ sqM n most N) (P' := fun H s h' => s.get [] = y ∧ s.get [false] = G n ∧ s.get [true] = G most ∧ s.get [false, false, false] = w ∧ s.get [true, false, false] = G (i : Nat) ∧ h' = H)
      (fun H r => n28_row J k27 hy0 r.1 r.2.1 r.2.2 h8 hm hi) (fun s h' q => ⟨q.2, q.1.1, q.1.2.1, q.1.2.2.1, q.1.2.2.2.1, q.1.2.2.2.2, rfl⟩))
    (Tr.exx fun w => Tr.exx fun N => Tr.fix (F := fun H => TG (frameOf h) H w N ∧ N.length = n ∧ sqM n most N) (P' := fun H s h' => s.get [] = y ∧ s.get [false] = G n ∧ s.get [true] = G most ∧ s.get [false, false, false] = w ∧ s.get [true, false, false] = G n ∧ h' = H)
      (fun H r => by
        have t : Tr tbl J ((.trim L28b c28_b1)) (fun s h => s.get [] = y ∧ s.get [false] = G n ∧ s.get [true] = G most ∧ s.get [false, false, false] = w ∧ s.get [true, false, false] = G n ∧ h = H) (.exit 0) (fun s h => s.get [false, false, false] = w ∧ h = H) := Tr.region fun s h hp => by
          obtain ⟨g0, g1, g2, g3, g4, rfl⟩ := hp
          simp (disch := first | omega | exact getEq rfl | exact getO0 | exact Nat.le_of_ble_eq_true rfl) [c28_b1, c28_o3, came_some, goI, List.getElem?_cons_zero, List.getElem?_cons_succ, kn, keep, app_growP, app_noneP, plus_N, plus_at0, put_plus0, upd_N, upd_size, putAt, AV.cells, fillA, loadA, takeA, mk, Eff.isAll, Eff.isNone, Eff.commutes, Eff.spares, okPair, apart, eqAgg, fits, LK.fits, allEq, aveq, eqk, mmA, beqT, wrapI, idxI, tdivI, tmodI, decT, decF, ibT, ibF, inT, inF, evScope_c, if_pos, if_neg, g0, g1, g2, g3, g4]
        exact Tr.post (fun s h' q => ⟨w, N, q.1, by rw [q.2]; exact r⟩) t) (fun s h' q => ⟨q.2, q.1.1, q.1.2.1, q.1.2.2.1, q.1.2.2.2.1, q.1.2.2.2.2, rfl⟩))
    (by simp) 0 (by omega)
  refine Tr.post (Q := fun s h' => ∃ w N, s.get [true, true] = w ∧ TG (frameOf h) h' w N ∧ N.length = n ∧ sqM n most N) ?_ (Tr.app2 t0 (Tr.seq (Tr.seq t00 (Tr.block (Tr.pre ?_ tl))) (Tr.exx fun w => Tr.exx fun N => Tr.fix (F := fun H => TG (frameOf h) H w N ∧ N.length = n ∧ sqM n most N) (P' := fun H s h' => s.get [false, false, false] = w ∧ h' = H) (fun H r => ?_) (fun s h' q => ⟨q.2, q.1, rfl⟩))))
  · rintro s h' ⟨w, N, q1, q2, q3, q4⟩
    refine ⟨[w], by simp [c28, q1], N, ?_, q3, q4⟩
    show TG h (h.plus (if (one [w]).flat = true then [] else h'.own)) w N
    split
    · rename_i hf
      obtain ⟨cs, lv, hl, _⟩ := q2.r
      rcases lv with ⟨e1, rfl⟩ | ⟨b, e1, _, _⟩
      · rw [e1, List.length_eq_zero_iff.1 hl.symm]
        have : h.plus [] = h := by simp [Heap.plus]
        rw [this]; exact TG.nil h
      · rw [e1] at hf; simp [one, AV.flat, AV.flats] at hf
    · exact q2.fr
  · rintro s h' ⟨q1, q2, q3, q4, q5, rfl⟩
    exact ⟨.nils, [], ⟨q1, q2, q3, q4, q5⟩, TG.nil _, rfl, fun l hl => by cases hl⟩
  ·
    have t : Tr tbl J ((.seq c28_o14 .ret)) (fun s h => s.get [false, false, false] = w ∧ h = H) .ret (fun s h => s.get [true, true] = w ∧ h = H) := Tr.region fun s h hp => by
      obtain ⟨g0, rfl⟩ := hp
      simp (disch := first | omega | exact getEq rfl | exact getO0 | exact Nat.le_of_ble_eq_true rfl) [c28_o14, came_some, goI, List.getElem?_cons_zero, List.getElem?_cons_succ, kn, keep, app_growP, app_noneP, plus_N, plus_at0, put_plus0, upd_N, upd_size, putAt, AV.cells, fillA, loadA, takeA, mk, Eff.isAll, Eff.isNone, Eff.commutes, Eff.spares, okPair, apart, eqAgg, fits, LK.fits, allEq, aveq, eqk, mmA, beqT, wrapI, idxI, tdivI, tmodI, decT, decF, ibT, ibF, inT, inF, evScope_c, if_pos, if_neg, g0]
    exact Tr.post (fun s h' q => ⟨w, N, q.1, by rw [q.2]; exact r⟩) t
end
def Good28 (args : List AV) (h : Heap) (v : AV) (own : List AObj) : Prop := ∀ (y : AV) (n : Nat) (most : Int), args = [y, G n, G most] → ∃ N, TG h (h.plus own) v N ∧ N.length = n ∧ sqM n most N
noncomputable def T3 : CallF := addX tbl T2 28 Good28
theorem t3 : Sound Go.Proofs.Try.prog T3 := Sound.addX follows ok t2 (by decide) Good28
abbrev K28 (J : CallF) : Prop := ∀ (h : Heap) (y : AV) (M : List (List Int)) (n : Nat) (most : Int), MR h y M → n ≤ 8 → 0 ≤ most ∧ most ≤ 9 → ∃ v own N, J 28 [y, G n, G most] h = some (v, own, false) ∧ TG h (h.plus own) v N ∧ N.length = n ∧ sqM n most N
theorem k28 : K28 T3 := fun h y M n most hy h8 hm => by
  obtain ⟨v, own, e, q⟩ := c28_ok T2 k27_2 (fun _ _ => by
    simp (disch := decide) only [T2, T1, R21, R20, R19, R18, R17, R16, R15, R14, R13, R12, R11, R10, R9, R8, R7, R6, R5, R4, R3, R2, R1, addI_ne, addX_ne, addV_ne]; rfl) h hy h8 hm
  obtain ⟨v', own', e', g⟩ := addX_some (tbl := tbl) (I := T2) (f := 28) (Good := Good28) (args := [y, G n, G most]) (h := h) ⟨_, _, e, fun y' n' most' hargs => by
    simp only [List.cons.injEq, and_true, AV.int.injEq, true_and, Int.natCast_inj] at hargs
    obtain ⟨rfl, rfl, rfl⟩ := hargs
    exact q⟩
  obtain ⟨N, q⟩ := g y n most rfl
  exact ⟨v', own', N, e', q⟩
theorem sqM_mat {n : Nat} {most : Int} {N : List (List Int)} (h : sqM n most N) (hl : N.length = n) (hn : 1 ≤ n ∧ n ≤ 8) (hm : most ≤ 9) : isMat N = true := by
  unfold isMat
  rw [hl, decide_eq_true hn, Bool.true_and, List.all_eq_true]
  intro l hl'
  obtain ⟨a, b⟩ := h l hl'
  unfold rowOk
  rw [decide_eq_true a, Bool.true_and]
  unfold allIn at b ⊢
  rw [List.all_eq_true] at b ⊢
  intro x hx
  have := b x hx
  simp only [decide_eq_true_eq] at this ⊢
  omega

end Go.Proofs.Ytjeemgaoonapgaa.Ev
