/-
  What mod, less and tame answer: a matrix of the size that is asked for. No condition.
-/
import Derived.Test.YtjeemgaoonapgaaRTab
set_option linter.unusedVariables false
set_option linter.unusedSimpArgs false
namespace Go.Proofs.Ytjeemgaoonapgaa.Ev
open Go Go.AEv

attribute [local simp] evFunc initS evOps_c evTrim_c evSkip_c evExit_c evRet_c evSeq_c evCond_c evBlock_c evDraw_c runOps_n runOps_c exec_n exec_g pure1_c act AOpd.ev T.get T.set T.put evBin evUn forceT_eq forceV_eq forceL_eq evRess evRes one keep runFP_n runFP_c app_none AV.flats AV.flat came_some List.getElem?_cons_zero List.getElem?_cons_succ beqT wrapI idxI tdivI tmodI decT decF ibT ibF inT inF evScope_c if_pos if_neg Cm_some thenW_n thenW_e thenW_r blkW_n blkW_e blkW_r goI kn putAt AV.cells fillA loadA takeA mk Eff.isAll Eff.isNone Eff.commutes Eff.spares okPair apart eqAgg fits LK.fits allEq aveq eqk mmA

/-! ### mod -/
def mdZ (x n : Int) : Int := (x % 18446744073709551616) % n
def spec27 : SpecV
  | [.int .i64 x, .int .i64 n] => if 0 < n ∧ n < 9223372036854775808 then some (G (mdZ x n)) else none
  | _ => none
theorem wrap_u64 (n : Int) : IntKind.u64.wrap n = n % 18446744073709551616 := by
  unfold IntKind.wrap IntKind.bits IntKind.signed
  simp
theorem c27_ok (J : CallF) (hJ : ∀ a h, J 27 a h = none) (x n : Int) (h1 : 0 < n) (h2 : n < 9223372036854775808) : CallsTo tbl J 27 [G x, G n] e0 (G (mdZ x n), [], false) := by
  unfold mdZ
  refine CallsTo.plain (cf := c27) (h' := frameOf e0) (by decide) rfl (hJ _ _) rfl rfl ?_
  have w : n % 18446744073709551616 = n := Int.emod_eq_of_lt (by omega) (by omega)
  have hz : ¬ n = 0 := by omega
  have hm : (x % 18446744073709551616).tmod n = (x % 18446744073709551616) % n := Int.tmod_eq_emod_of_nonneg (Int.emod_nonneg _ (by decide))
  have a1 := Int.emod_nonneg (x % 18446744073709551616) hz
  have a2 := Int.emod_lt_of_pos (x % 18446744073709551616) h1
  simp [c27, c27_o0, c27_o1, wrap_u64, w, hz, hm, wrapI ((x % 18446744073709551616) % n) (by omega) (by omega)]
noncomputable def T1 : CallF := addV R21 27 spec27
theorem t1 : Sound Go.Proofs.Try.prog T1 := Sound.addV follows ok s21 (by decide) (fun args v h => by
  unfold spec27 at h
  split at h
  · split at h
    · rename_i hn
      simp only [Option.some.injEq] at h; subst h
      exact c27_ok R21 (fun _ _ => by
        simp (disch := decide) only [R21, R20, R19, R18, R17, R16, R15, R14, R13, R12, R11, R10, R9, R8, R7, R6, R5, R4, R3, R2, R1, addI_ne, addX_ne, addV_ne]; rfl) _ _ hn.1 hn.2
    · cases h
  · cases h)
/-! ### less -/
def lessOk (a b c d : Int) : Prop := (0 ≤ a ∧ a ≤ 7200000000) ∧ (0 ≤ b ∧ b ≤ 1000000000) ∧ (0 ≤ c ∧ c ≤ 7200000000) ∧ (0 ≤ d ∧ d ≤ 1000000000)
instance (a b c d : Int) : Decidable (lessOk a b c d) := by unfold lessOk; infer_instance
def spec29 : SpecV
  | [.agg [.int .i64 a, .int .i64 b], .agg [.int .i64 c, .int .i64 d]] => if lessOk a b c d then some (.bool (decide (a * d < c * b))) else none
  | _ => none
theorem c29_ok (J : CallF) (hJ : ∀ a h, J 29 a h = none) (a b c d : Int) (hl : lessOk a b c d) : CallsTo tbl J 29 [.agg [G a, G b], .agg [G c, G d]] e0 (.bool (decide (a * d < c * b)), [], false) := by
  obtain ⟨h1, h2, h3, h4⟩ := hl
  have m1 := mul_bd h1.1 h1.2 h4.1 h4.2
  have m2 := mul_bd h3.1 h3.2 h2.1 h2.2
  refine CallsTo.plain (cf := c29) (h' := ⟨e0.get, 0, [.cells 0 2 [G a, G b], .cells 0 2 [G c, G d]]⟩) (by decide) rfl (hJ _ _) rfl rfl ?_
  simp [c29, c29_o0, c29_o1, mk, frameOf, Heap.size, e0, Eff.app, Heap.get, AV.cells, loadA, takeA, wrapI (a * d) (by omega) (by omega), wrapI (c * b) (by omega) (by omega)]
noncomputable def T2 : CallF := addV T1 29 spec29
theorem t2 : Sound Go.Proofs.Try.prog T2 := Sound.addV follows ok t1 (by decide) (fun args v h => by
  unfold spec29 at h
  split at h
  · split at h
    · rename_i hn
      simp only [Option.some.injEq] at h; subst h
      exact c29_ok T1 (fun _ _ => by
        simp (disch := decide) only [T1, R21, R20, R19, R18, R17, R16, R15, R14, R13, R12, R11, R10, R9, R8, R7, R6, R5, R4, R3, R2, R1, addI_ne, addX_ne, addV_ne]; rfl) _ _ _ _ hn
    · cases h
  · cases h)
/-! ### tame -/
section
variable {n : Nat} {most : Int} {M : List (List Int)}
/-- A row that is in the making. -/
structure Row (h H : Heap) (n : Nat) (most : Int) : Prop where
  k : Kp (fun _ => False) h H
  g : ∃ L : List Int, L.length = n ∧ allIn 0 most L = true ∧ H.get h.size = .cells 1 n (gs L)
theorem allIn_set {lo hi : Int} {A : List Int} (h : allIn lo hi A = true) (i : Nat) {x : Int} (hx : lo ≤ x ∧ x ≤ hi) : allIn lo hi (A.set i x) = true := by
  unfold allIn at h ⊢
  rw [List.all_eq_true] at h ⊢
  intro a ha
  rcases List.mem_or_eq_of_mem_set ha with q | q
  · exact h a q
  · subst q; simpa using hx
theorem Row.set {h H : Heap} (r : Row h H n most) {i : Nat} (hi : i < n) {x : Int} (hx : 0 ≤ x ∧ x ≤ most) : ∃ H', Eff.app (.put h.size n i [G x]) H = some H' ∧ Row h H' n most := by
  obtain ⟨L, l1, l2, g⟩ := r.g
  have hN : H.N ≤ h.size := by rw [r.k.N]; unfold Heap.size; omega
  refine ⟨_, put_gen H h.size n i 1 (gs L) [G x] hN g (by simp [l1]; omega), ⟨r.k.updn _ _ hN (Nat.le_refl _), L.set i x, by simp [l1], allIn_set l2 i hx, ?_⟩⟩
  rw [upd_same _ _ _ hN (get_lt g (by simp))]
  simp [putAt, gs]
/-- Rows of n numbers from 0 to most. -/
def sqM (n : Nat) (most : Int) (N : List (List Int)) : Prop := ∀ l ∈ N, l.length = n ∧ allIn 0 most l = true
end
def Good28 (args : List AV) (h : Heap) (v : AV) (own : List AObj) : Prop := ∀ (y : AV) (n : Nat) (most : Int), args = [y, G n, G most] → ∃ N, TG h (h.plus own) v N ∧ N.length = n ∧ sqM n most N
noncomputable def T3 : CallF := addX tbl T2 28 Good28
theorem t3 : Sound Go.Proofs.Try.prog T3 := Sound.addX follows ok t2 (by decide) Good28
end Go.Proofs.Ytjeemgaoonapgaa.Ev
