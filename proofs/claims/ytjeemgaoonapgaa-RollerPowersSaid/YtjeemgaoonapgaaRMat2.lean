/-
  What the reference's Matrix and Vector answer. No condition.
-/
import Derived.Test.YtjeemgaoonapgaaRMat
set_option linter.unusedVariables false
set_option linter.unusedSimpArgs false
namespace Go.Proofs.Ytjeemgaoonapgaa.Ev
open Go Go.AEv

attribute [local simp] evFunc initS evOps_c evTrim_c evSkip_c evExit_c evRet_c evSeq_c evCond_c evBlock_c evDraw_c runOps_n runOps_c exec_n exec_g pure1_c act AOpd.ev T.get T.set T.put evBin evUn forceT_eq forceV_eq forceL_eq evRess evRes one keep runFP_n runFP_c app_none AV.flats AV.flat came_some List.getElem?_cons_zero List.getElem?_cons_succ beqT wrapI idxI tdivI tmodI decT decF ibT ibF inT inF evScope_c if_pos if_neg Cm_some thenW_n thenW_e thenW_r blkW_n blkW_e blkW_r goI kn putAt AV.cells fillA loadA takeA mk Eff.isAll Eff.isNone Eff.commutes Eff.spares okPair apart eqAgg fits LK.fits allEq aveq eqk mmA

section
variable {M : List (List Int)} {y : AV} {n : Nat}
abbrev L21a : List Path := [[], [false, false], [true, false], [false, true]]
abbrev L21b : List Path := [[], [false, false], [true, false]]
theorem c21_in (J : CallF) (H : Heap) {b v i rb rv : Nat} {cs : List AV} {l : List Int} (g : H.get b = .cells 1 v cs) (er : cs[i]? = some (.slice rb 0 n rv)) (gr : H.get rb = .cells 1 rv (gs l)) (hl : l.length = n) (hi : i < n) (hn : n ≤ 8) :
    ∀ k j, j + k = n → (allIn 0 9 (l.drop j) = true → Tr tbl J c21_l0 (fun s h => s.get [] = .slice b 0 n v ∧ s.get [false, false] = G n ∧ s.get [true, false] = G i ∧ s.get [false, true] = G j ∧ h = H) (.exit 2) (fun s h => s.get [] = .slice b 0 n v ∧ s.get [false, false] = G n ∧ s.get [true, false] = G i ∧ h = H)) ∧
      (allIn 0 9 (l.drop j) = false → Tr tbl J c21_l0 (fun s h => s.get [] = .slice b 0 n v ∧ s.get [false, false] = G n ∧ s.get [true, false] = G i ∧ s.get [false, true] = G j ∧ h = H) .ret (fun s h => s.get [true] = .bool false)) := by
  have er' : ∀ h : i < cs.length, cs[i] = .slice rb 0 n rv := fun h => by rw [List.getElem?_eq_getElem h] at er; exact Option.some.inj er
  intro k
  induction k with
  | zero =>
    intro j hj
    obtain rfl : j = n := by omega
    have e1 : l.drop j = [] := List.drop_of_length_le (by omega)
    rw [e1]
    refine ⟨fun _ => ?_, fun hne => by cases hne⟩
    have t : Tr tbl J ((.trim L21a c21_b0)) (fun s h => s.get [] = .slice b 0 j v ∧ s.get [false, false] = G j ∧ s.get [true, false] = G i ∧ s.get [false, true] = G j ∧ h = H) (.exit 2) (fun s h => s.get [] = .slice b 0 j v ∧ s.get [false, false] = G j ∧ s.get [true, false] = G i ∧ h = H) := Tr.region fun s h hp => by
      obtain ⟨g0, g1, g2, g3, rfl⟩ := hp
      simp (disch := first | omega | exact getEq rfl | exact getO0 | exact Nat.le_of_ble_eq_true rfl) [c21_b0, c21_o7, app_growP, app_noneP, plus_N, plus_at0, put_plus0, put_plus1, upd_N, upd_size, g0, g1, g2, g3]
    exact Tr.out t (by simp)
  | succ k ih =>
    intro j hj
    have hjl : j < l.length := by omega
    have ea : l[j]? = some l[j] := List.getElem?_eq_getElem hjl
    have da : l.drop j = l[j] :: l.drop (j + 1) := List.drop_eq_getElem_cons hjl
    rw [da]
    have xa : (gs l)[j]? = some (G l[j]) := by rw [List.getElem?_map, ea]; rfl
    have ih' := ih (j + 1) (by omega)
    clear ea da
    have xa' : ∀ h : j < (gs l).length, (gs l)[j] = G l[j] := fun h => by rw [List.getElem?_eq_getElem h] at xa; exact Option.some.inj xa
    have hlen : (gs l).length = n := by simp [hl]
    generalize l[j] = p at *
    generalize gs l = cl at *
    by_cases hp : 0 ≤ p ∧ p ≤ 9
    ·
      have t : Tr tbl J ((.trim L21a c21_b0)) (fun s h => s.get [] = .slice b 0 n v ∧ s.get [false, false] = G n ∧ s.get [true, false] = G i ∧ s.get [false, true] = G j ∧ h = H) .normal (fun s h => s.get [] = .slice b 0 n v ∧ s.get [false, false] = G n ∧ s.get [true, false] = G i ∧ s.get [false, true] = G ((j + 1 : Nat) : Int) ∧ h = H) := Tr.region fun s h hp => by
        obtain ⟨g0, g1, g2, g3, rfl⟩ := hp
        simp (disch := first | omega | exact getEq rfl | exact getO0 | exact Nat.le_of_ble_eq_true rfl) [c21_b0, c21_o7, c21_o8, c21_o10, app_growP, app_noneP, plus_N, plus_at0, put_plus0, put_plus1, upd_N, upd_size, g0, g1, g2, g3, g, er, er', gr, xa, xa', hlen]
      have e1 : allIn 0 9 (p :: l.drop (j + 1)) = allIn 0 9 (l.drop (j + 1)) := by simp [allIn, hp]
      rw [e1]
      exact ⟨fun e => Tr.next t (ih'.1 e), fun e => Tr.next t (ih'.2 e)⟩
    · refine ⟨fun e => by simp [allIn, hp] at e, fun _ => ?_⟩
      by_cases h0 : p < 0
      ·
        have t : Tr tbl J ((.trim L21a c21_b0)) (fun s h => s.get [] = .slice b 0 n v ∧ s.get [false, false] = G n ∧ s.get [true, false] = G i ∧ s.get [false, true] = G j ∧ h = H) .ret (fun s h => s.get [true] = .bool false) := Tr.region fun s h hp => by
          obtain ⟨g0, g1, g2, g3, rfl⟩ := hp
          simp (disch := first | omega | exact getEq rfl | exact getO0 | exact Nat.le_of_ble_eq_true rfl) [c21_b0, c21_o7, c21_o8, c21_o9, app_growP, app_noneP, plus_N, plus_at0, put_plus0, put_plus1, upd_N, upd_size, g0, g1, g2, g3, g, er, er', gr, xa, xa', hlen]
        exact Tr.out t (by simp)
      ·
        have t : Tr tbl J ((.trim L21a c21_b0)) (fun s h => s.get [] = .slice b 0 n v ∧ s.get [false, false] = G n ∧ s.get [true, false] = G i ∧ s.get [false, true] = G j ∧ h = H) .ret (fun s h => s.get [true] = .bool false) := Tr.region fun s h hp => by
          obtain ⟨g0, g1, g2, g3, rfl⟩ := hp
          simp (disch := first | omega | exact getEq rfl | exact getO0 | exact Nat.le_of_ble_eq_true rfl) [c21_b0, c21_o7, c21_o8, c21_o9, app_growP, app_noneP, plus_N, plus_at0, put_plus0, put_plus1, upd_N, upd_size, g0, g1, g2, g3, g, er, er', gr, xa, xa', hlen]
        exact Tr.out t (by simp)
theorem c21_row (J : CallF) (H : Heap) {b v i : Nat} {cs : List AV} {l : List Int} {r : AV} (g : H.get b = .cells 1 v cs) (er : cs[i]? = some r) (hr : LR H r l) (hi : i < n) (hn : n ≤ 8) :
    (rowOk n l = true → Tr tbl J (.trim L21b c21_b1) (fun s h => s.get [] = .slice b 0 n v ∧ s.get [false, false] = G n ∧ s.get [true, false] = G i ∧ h = H) .normal (fun s h => s.get [] = .slice b 0 n v ∧ s.get [false, false] = G n ∧ s.get [true, false] = G ((i + 1 : Nat) : Int) ∧ h = H)) ∧
    (rowOk n l = false → Tr tbl J (.trim L21b c21_b1) (fun s h => s.get [] = .slice b 0 n v ∧ s.get [false, false] = G n ∧ s.get [true, false] = G i ∧ h = H) .ret (fun s h => s.get [true] = .bool false)) := by
  have er' : ∀ h : i < cs.length, cs[i] = r := fun h => by rw [List.getElem?_eq_getElem h] at er; exact Option.some.inj er
  have hs := LR.sl hr
  have ta : Tr tbl J ((.trim L21b (.seq c21_o3 (.cond (.s [true, true, true]) .skip (.exit 0))))) (fun s h => s.get [] = .slice b 0 n v ∧ s.get [false, false] = G n ∧ s.get [true, false] = G i ∧ h = H) .normal (fun s h => s.get [] = .slice b 0 n v ∧ s.get [false, false] = G n ∧ s.get [true, false] = G i ∧ h = H) := Tr.region fun s h hp => by
    obtain ⟨g0, g1, g2, rfl⟩ := hp
    simp (disch := first | omega | exact getEq rfl | exact getO0 | exact Nat.le_of_ble_eq_true rfl) [c21_o3, app_growP, app_noneP, plus_N, plus_at0, put_plus0, put_plus1, upd_N, upd_size, g0, g1, g2]
  by_cases hl : l.length = n
  · rw [hl] at hs
    have tb : Tr tbl J ((.seq c21_o4 (.cond (.s [false, false, false, true]) (.seq c21_o5 .ret) .skip))) (fun s h => s.get [] = .slice b 0 n v ∧ s.get [false, false] = G n ∧ s.get [true, false] = G i ∧ h = H) .normal (fun s h => s.get [] = .slice b 0 n v ∧ s.get [false, false] = G n ∧ s.get [true, false] = G i ∧ h = H) := Tr.region fun s h hp => by
      obtain ⟨g0, g1, g2, rfl⟩ := hp
      rcases hs with ⟨rfl, h0⟩ | ⟨rfl, h0⟩ | ⟨b', v', rfl⟩ <;> first | omega | simp (disch := first | omega | exact getEq rfl | exact getO0 | exact Nat.le_of_ble_eq_true rfl) [c21_o4, app_growP, app_noneP, plus_N, plus_at0, put_plus0, put_plus1, upd_N, upd_size, g0, g1, g2, g, er, er']
    have tc : Tr tbl J (c21_o6) (fun s h => s.get [] = .slice b 0 n v ∧ s.get [false, false] = G n ∧ s.get [true, false] = G i ∧ h = H) .normal (fun s h => s.get [] = .slice b 0 n v ∧ s.get [false, false] = G n ∧ s.get [true, false] = G i ∧ s.get [false, true] = G ((0 : Nat) : Int) ∧ h = H) := Tr.region fun s h hp => by
      obtain ⟨g0, g1, g2, rfl⟩ := hp
      simp (disch := first | omega | exact getEq rfl | exact getO0 | exact Nat.le_of_ble_eq_true rfl) [c21_o6, app_growP, app_noneP, plus_N, plus_at0, put_plus0, put_plus1, upd_N, upd_size, g0, g1, g2]
    have te : Tr tbl J (c21_o11) (fun s h => s.get [] = .slice b 0 n v ∧ s.get [false, false] = G n ∧ s.get [true, false] = G i ∧ h = H) .normal (fun s h => s.get [] = .slice b 0 n v ∧ s.get [false, false] = G n ∧ s.get [true, false] = G ((i + 1 : Nat) : Int) ∧ h = H) := Tr.region fun s h hp => by
      obtain ⟨g0, g1, g2, rfl⟩ := hp
      simp (disch := first | omega | exact getEq rfl | exact getO0 | exact Nat.le_of_ble_eq_true rfl) [c21_o11, app_growP, app_noneP, plus_N, plus_at0, put_plus0, put_plus1, upd_N, upd_size, g0, g1, g2]
    have hr' : rowOk n l = allIn 0 9 l := by unfold rowOk; rw [decide_eq_true hl, Bool.true_and]
    rw [hr']
    rcases hr.cases with ⟨_, e⟩ | ⟨_, e⟩ | ⟨rb, rv, rfl, gr⟩
    · rw [e] at hl; simp at hl; omega
    · rw [e] at hl; simp at hl; omega
    · rw [hl] at er
      obtain ⟨l1, l2⟩ := c21_in J H g er gr hl hi hn n 0 (by omega)
      rw [List.drop_zero] at l1 l2
      exact ⟨fun e => Tr.trim_seq ta (Tr.seq (Tr.block_out (Tr.seq tb (Tr.seq tc (Tr.block (l1 e)))) (by simp)) te),
        fun e => Tr.trim_seq ta (Tr.seq_out (Tr.block_out (Tr.seq tb (Tr.seq tc (Tr.block_out (l2 e) (by simp)))) (by simp)) (by simp))⟩
  · have hr' : rowOk n l = false := by unfold rowOk; rw [decide_eq_false hl, Bool.false_and]
    rw [hr']
    refine ⟨fun e => (by cases e), fun _ => ?_⟩
    obtain ⟨m, hm⟩ : ∃ m, l.length = m := ⟨_, rfl⟩
    rw [hm] at hs hl
    have tb : Tr tbl J ((.seq c21_o4 (.cond (.s [false, false, false, true]) (.seq c21_o5 .ret) .skip))) (fun s h => s.get [] = .slice b 0 n v ∧ s.get [false, false] = G n ∧ s.get [true, false] = G i ∧ h = H) .ret (fun s h => s.get [true] = .bool false) := Tr.region fun s h hp => by
      obtain ⟨g0, g1, g2, rfl⟩ := hp
      rcases hs with ⟨rfl, h0⟩ | ⟨rfl, h0⟩ | ⟨b', v', rfl⟩ <;> (try subst h0) <;> simp (disch := first | omega | exact getEq rfl | exact getO0 | exact Nat.le_of_ble_eq_true rfl) [c21_o4, c21_o5, app_growP, app_noneP, plus_N, plus_at0, put_plus0, put_plus1, upd_N, upd_size, g0, g1, g2, g, er, er', hl, inT]
    exact Tr.trim_seq ta (Tr.seq_out (Tr.block_out (Tr.seq_out tb (by simp)) (by simp)) (by simp))
theorem c21_loop (J : CallF) (H : Heap) (hy : MR H y M) (hn : M.length ≤ 8) : ∀ k i, i + k = M.length →
    (rowsFrom M i = true → Tr tbl J c21_l1 (fun s h => s.get [] = y ∧ s.get [false, false] = G M.length ∧ s.get [true, false] = G i ∧ h = H) (.exit 0) (fun s h => s.get [false, false] = G M.length)) ∧ (rowsFrom M i = false → Tr tbl J c21_l1 (fun s h => s.get [] = y ∧ s.get [false, false] = G M.length ∧ s.get [true, false] = G i ∧ h = H) .ret (fun s h => s.get [true] = .bool false)) := by
  intro k
  induction k with
  | zero =>
    intro i hi
    obtain rfl : i = M.length := by omega
    refine ⟨fun _ => ?_, fun hne => by rw [rowsFrom_n] at hne; cases hne⟩
    generalize M.length = n at *
    have t : Tr tbl J ((.trim L21b c21_b1)) (fun s h => s.get [] = y ∧ s.get [false, false] = G n ∧ s.get [true, false] = G n ∧ h = H) (.exit 0) (fun s h => s.get [false, false] = G n) := Tr.region fun s h hp => by
      obtain ⟨g0, g1, g2, rfl⟩ := hp
      simp (disch := first | omega | exact getEq rfl | exact getO0 | exact Nat.le_of_ble_eq_true rfl) [c21_b1, c21_o3, app_growP, app_noneP, plus_N, plus_at0, put_plus0, put_plus1, upd_N, upd_size, g0, g1, g2]
    exact Tr.out t (by simp)
  | succ k ih =>
    intro i hi
    have ih' := ih (i + 1) (by omega)
    have hiM : i < M.length := by omega
    obtain ⟨b, v, cs, r, rfl, g, er, hr⟩ := hy.row hiM
    rw [rowsFrom_s hiM]
    obtain ⟨t1, t2⟩ := c21_row J H g er hr hiM hn
    by_cases c : rowOk M.length (M.getD i []) = true
    · rw [c, Bool.true_and]
      exact ⟨fun e => Tr.next (t1 c) (ih'.1 e), fun e => Tr.next (t1 c) (ih'.2 e)⟩
    · have c0 : rowOk M.length (M.getD i []) = false := by simpa using c
      rw [c0, Bool.false_and]
      exact ⟨fun e => (by cases e), fun _ => Tr.out (t2 c0) (by simp)⟩
theorem c21_ok (J : CallF) (hJ : ∀ a h, J 21 a h = none) (h : Heap) (hy : MR h y M) (hb : M.length < 9223372036854775808) : CallsTo tbl J 21 [y] h (.bool (isMat M), [], false) := by
  refine Tr.fnv (cf := c21) (e := .ret) (s := T.set .leaf [] y) (by decide) rfl (hJ _ _) rfl rfl rfl (by simp) ?_
  have hy0 : MR (frameOf h) y M := hy.lo []
  have hs := hy.sl
  have t0 : Tr tbl J ((.seq c21_o0 c21_o1)) (fun s h' => s = T.set .leaf [] y ∧ h' = frameOf h) .normal (fun s h' => s.get [] = y ∧ s.get [false, false] = G M.length ∧ h' = frameOf h) := Tr.region fun s h hp => by
    obtain ⟨rfl, rfl⟩ := hp
    generalize M.length = n at *
    rcases hs with ⟨rfl, rfl⟩ | ⟨rfl, rfl⟩ | ⟨b, v, rfl⟩ <;> simp (disch := first | omega | exact getEq rfl | exact getO0 | exact Nat.le_of_ble_eq_true rfl) [c21_o0, c21_o1, app_growP, app_noneP, plus_N, plus_at0, put_plus0, put_plus1, upd_N, upd_size]
  have t00 : Tr tbl J (c21_o2) (fun s h' => s.get [] = y ∧ s.get [false, false] = G M.length ∧ h' = frameOf h) .normal (fun s h' => s.get [] = y ∧ s.get [false, false] = G M.length ∧ s.get [true, false] = G ((0 : Nat) : Int) ∧ h' = frameOf h) := Tr.region fun s h hp => by
    obtain ⟨g0, g1, rfl⟩ := hp
    generalize M.length = n at *
    simp (disch := first | omega | exact getEq rfl | exact getO0 | exact Nat.le_of_ble_eq_true rfl) [c21_o2, app_growP, app_noneP, plus_N, plus_at0, put_plus0, put_plus1, upd_N, upd_size, g0, g1]
  have hd : isMat M = (decide (1 ≤ M.length ∧ M.length ≤ 8) && rowsFrom M 0) := rfl
  by_cases h8 : M.length ≤ 8
  · obtain ⟨l1, l2⟩ := c21_loop J (frameOf h) hy0 h8 M.length 0 (by omega)
    by_cases c : rowsFrom M 0 = true
    · rw [hd, c, Bool.and_true]
      have t9 : Tr tbl J ((.seq c21_o12 .ret)) (fun s h => s.get [false, false] = G M.length) .ret (fun s h => s.get [true] = .bool (decide (1 ≤ M.length ∧ M.length ≤ 8))) := Tr.region fun s h hp => by
        have g0 := hp
        generalize M.length = n at *
        by_cases c : 1 ≤ n
        · simp (disch := first | omega | exact getEq rfl | exact getO0 | exact Nat.le_of_ble_eq_true rfl) [c21_o12, frameOf, Heap.size, Heap.get, Eff.app, Heap.setOwn, g0]
        · simp (disch := first | omega | exact getEq rfl | exact getO0 | exact Nat.le_of_ble_eq_true rfl) [c21_o12, frameOf, Heap.size, Heap.get, Eff.app, Heap.setOwn, g0]
      exact Tr.post (fun s h q => by simp [c21, q]) (Tr.app2 t0 (Tr.seq (Tr.seq t00 (Tr.block (l1 c))) t9))
    · have c' : rowsFrom M 0 = false := by simpa using c
      rw [hd, c', Bool.and_false]
      exact Tr.post (fun s h q => by simp [c21, q]) (Tr.app2 t0 (Tr.seq_out (Tr.seq t00 (Tr.block_out (l2 c') (by simp))) (by simp)))
  · have hf : isMat M = false := by rw [hd, decide_eq_false (by omega), Bool.false_and]
    rw [hf]
    have t1 : Tr tbl J ((.trim L21b c21_b1)) (fun s h' => s.get [] = y ∧ s.get [false, false] = G M.length ∧ s.get [true, false] = G ((0 : Nat) : Int) ∧ h' = frameOf h) (.exit 0) (fun s h => s.get [false, false] = G M.length) := Tr.region fun s h hp => by
      obtain ⟨g0, g1, g2, rfl⟩ := hp
      generalize M.length = n at *
      simp (disch := first | omega | exact getEq rfl | exact getO0 | exact Nat.le_of_ble_eq_true rfl) [c21_b1, c21_o3, app_growP, app_noneP, plus_N, plus_at0, put_plus0, put_plus1, upd_N, upd_size, g0, g1, g2]
    have t9 : Tr tbl J ((.seq c21_o12 .ret)) (fun s h => s.get [false, false] = G M.length) .ret (fun s h => s.get [true] = .bool false) := Tr.region fun s h hp => by
      have g0 := hp
      generalize M.length = n at *
      simp (disch := first | omega | exact getEq rfl | exact getO0 | exact Nat.le_of_ble_eq_true rfl) [c21_o12, frameOf, Heap.size, Heap.get, Eff.app, Heap.setOwn, g0]
    exact Tr.post (fun s h q => by simp [c21, q]) (Tr.app2 t0 (Tr.seq (Tr.seq t00 (Tr.block (Tr.out t1 (by simp)))) t9))
end
/-- How many rows there are, if they are rows. -/
def Good21 (args : List AV) (h : Heap) (v : AV) (own : List AObj) : Prop := ∀ y M, args = [y] → MR h y M → own = [] ∧ v = .bool (isMat M)
noncomputable def R15 : CallF := addX tbl R14 21 Good21
theorem s15 : Sound Go.Proofs.Try.prog R15 := Sound.addX follows ok s14 (by decide) Good21
abbrev K21 (J : CallF) : Prop := ∀ (h : Heap) (y : AV) (M : List (List Int)), MR h y M → M.length < 9223372036854775808 → J 21 [y] h = some (.bool (isMat M), [], false)
theorem k21 : K21 R15 := fun h y M hy hb => by
  have e := c21_ok R14 (fun _ _ => rfl) h hy hb
  obtain ⟨v', own', e', g⟩ := addX_some (tbl := tbl) (I := R14) (f := 21) (Good := Good21) (args := [y]) (h := h) ⟨_, _, e, fun y' M' hargs h1 => by
    simp only [List.cons.injEq, and_true] at hargs
    subst hargs
    rw [← hy.inj h1]; exact ⟨rfl, rfl⟩⟩
  obtain ⟨o1, o2⟩ := g y M rfl hy
  subst o1 o2
  exact e'

/-! ### Vector -/
section
variable {lo : Int} {b v n : Nat} {A : List Int}
abbrev L22 : List Path := [[], [false], [true], [false, false, false]]
theorem c22_loop (J : CallF) (H : Heap) {N : Int} {ca : List AV} (ha : H.get b = .cells 1 v ca) (hca : ∀ i : Nat, ca[i]? = (A[i]?).map fun n => AV.int .i64 n) (la : A.length = n) (hn : n < 9223372036854775808) :
    ∀ j i, i + j = n → (allIn lo 100000000 (A.drop i) = true → Tr tbl J c22_l0 (fun s h => s.get [] = .slice b 0 n v ∧ s.get [false] = G N ∧ s.get [true] = G lo ∧ s.get [false, false, false] = G i ∧ h = H) (.exit 0) (fun s h => s.get [] = .slice b 0 n v ∧ s.get [false] = G N)) ∧
      (allIn lo 100000000 (A.drop i) = false → Tr tbl J c22_l0 (fun s h => s.get [] = .slice b 0 n v ∧ s.get [false] = G N ∧ s.get [true] = G lo ∧ s.get [false, false, false] = G i ∧ h = H) .ret (fun s h => s.get [true, true] = .bool false)) := by
  intro j
  induction j with
  | zero =>
    intro i hi'
    obtain rfl : i = n := by omega
    have e1 : A.drop i = [] := List.drop_of_length_le (by omega)
    rw [e1]
    refine ⟨fun _ => ?_, fun hne => by cases hne⟩
    have t : Tr tbl J ((.trim L22 c22_b0)) (fun s h => s.get [] = .slice b 0 i v ∧ s.get [false] = G N ∧ s.get [true] = G lo ∧ s.get [false, false, false] = G i ∧ h = H) (.exit 0) (fun s h => s.get [] = .slice b 0 i v ∧ s.get [false] = G N) := Tr.region fun s h hp => by
      obtain ⟨g0, g1, g2, g3, rfl⟩ := hp
      simp (disch := first | omega | exact getEq rfl | exact getO0 | exact Nat.le_of_ble_eq_true rfl) [c22_b0, c22_o2, app_growP, app_noneP, plus_N, plus_at0, put_plus0, put_plus1, upd_N, upd_size, g0, g1, g2, g3]
    exact Tr.out t (by simp)
  | succ j ih =>
    intro i hi'
    have hia : i < A.length := by omega
    have ea : A[i]? = some A[i] := List.getElem?_eq_getElem hia
    have da : A.drop i = A[i] :: A.drop (i + 1) := List.drop_eq_getElem_cons hia
    rw [da]
    have xa := hca i
    rw [ea] at xa
    simp only [Option.map_some] at xa
    clear ea da hca
    generalize A[i] = p at *
    have ih' := ih (i + 1) (by omega)
    by_cases hp : lo ≤ p ∧ p ≤ 100000000
    ·
      have t : Tr tbl J ((.trim L22 c22_b0)) (fun s h => s.get [] = .slice b 0 n v ∧ s.get [false] = G N ∧ s.get [true] = G lo ∧ s.get [false, false, false] = G i ∧ h = H) .normal (fun s h => s.get [] = .slice b 0 n v ∧ s.get [false] = G N ∧ s.get [true] = G lo ∧ s.get [false, false, false] = G ((i + 1 : Nat) : Int) ∧ h = H) := Tr.region fun s h hp => by
        obtain ⟨g0, g1, g2, g3, rfl⟩ := hp
        simp (disch := first | omega | exact getEq rfl | exact getO0 | exact Nat.le_of_ble_eq_true rfl) [c22_b0, c22_o2, c22_o3, c22_o5, app_growP, app_noneP, plus_N, plus_at0, put_plus0, put_plus1, upd_N, upd_size, g0, g1, g2, g3, ha, xa]
      have e1 : allIn lo 100000000 (p :: A.drop (i + 1)) = allIn lo 100000000 (A.drop (i + 1)) := by simp [allIn, hp]
      rw [e1]
      exact ⟨fun e => Tr.next t (ih'.1 e), fun e => Tr.next t (ih'.2 e)⟩
    · refine ⟨fun e => by simp [allIn] at e; omega, fun _ => ?_⟩
      by_cases h0 : p < lo
      ·
        have t : Tr tbl J ((.trim L22 c22_b0)) (fun s h => s.get [] = .slice b 0 n v ∧ s.get [false] = G N ∧ s.get [true] = G lo ∧ s.get [false, false, false] = G i ∧ h = H) .ret (fun s h => s.get [true, true] = .bool false) := Tr.region fun s h hp => by
          obtain ⟨g0, g1, g2, g3, rfl⟩ := hp
          simp (disch := first | omega | exact getEq rfl | exact getO0 | exact Nat.le_of_ble_eq_true rfl) [c22_b0, c22_o2, c22_o3, c22_o4, app_growP, app_noneP, plus_N, plus_at0, put_plus0, put_plus1, upd_N, upd_size, g0, g1, g2, g3, ha, xa]
        exact Tr.out t (by simp)
      ·
        have t : Tr tbl J ((.trim L22 c22_b0)) (fun s h => s.get [] = .slice b 0 n v ∧ s.get [false] = G N ∧ s.get [true] = G lo ∧ s.get [false, false, false] = G i ∧ h = H) .ret (fun s h => s.get [true, true] = .bool false) := Tr.region fun s h hp => by
          obtain ⟨g0, g1, g2, g3, rfl⟩ := hp
          simp (disch := first | omega | exact getEq rfl | exact getO0 | exact Nat.le_of_ble_eq_true rfl) [c22_b0, c22_o2, c22_o3, c22_o4, app_growP, app_noneP, plus_N, plus_at0, put_plus0, put_plus1, upd_N, upd_size, g0, g1, g2, g3, ha, xa]
        exact Tr.out t (by simp)
theorem c22_ok (J : CallF) (hJ : ∀ a h, J 22 a h = none) (h : Heap) {x : AV} (N : Int) (hx : LR h x A) (hn : A.length < 9223372036854775808) : CallsTo tbl J 22 [x, G N, G lo] h (.bool (allIn lo 100000000 A && decide ((A.length : Int) = N)), [], false) := by
  refine Tr.fnv (cf := c22) (e := .ret) (s := T.set (T.set (T.set .leaf [] x) [false] (G N)) [true] (G lo)) (by decide) rfl (hJ _ _) rfl rfl rfl (by simp) ?_
  have hx0 : LR (frameOf h) x A := LR.lo hx []
  have t0 : Tr tbl J (c22_o0) (fun s h' => s = T.set (T.set (T.set .leaf [] x) [false] (G N)) [true] (G lo) ∧ h' = frameOf h) .normal (fun s h' => s.get [] = x ∧ s.get [false] = G N ∧ s.get [true] = G lo ∧ h' = frameOf h) := Tr.region fun s h hp => by
    obtain ⟨rfl, rfl⟩ := hp
    simp (disch := first | omega | exact getEq rfl | exact getO0 | exact Nat.le_of_ble_eq_true rfl) [c22_o0, app_growP, app_noneP, plus_N, plus_at0, put_plus0, put_plus1, upd_N, upd_size]
  have t00 : Tr tbl J (c22_o1) (fun s h' => s.get [] = x ∧ s.get [false] = G N ∧ s.get [true] = G lo ∧ h' = frameOf h) .normal (fun s h' => s.get [] = x ∧ s.get [false] = G N ∧ s.get [true] = G lo ∧ s.get [false, false, false] = G ((0 : Nat) : Int) ∧ h' = frameOf h) := Tr.region fun s h hp => by
    obtain ⟨g0, g1, g2, rfl⟩ := hp
    simp (disch := first | omega | exact getEq rfl | exact getO0 | exact Nat.le_of_ble_eq_true rfl) [c22_o1, app_growP, app_noneP, plus_N, plus_at0, put_plus0, put_plus1, upd_N, upd_size, g0, g1, g2]
  have nil : ∀ y, (y = .nils ∨ y = .slice0) → x = y → Tr tbl J (.seq (.block 0 c22_l0) (.seq c22_o6 .ret)) (fun s h' => s.get [] = x ∧ s.get [false] = G N ∧ s.get [true] = G lo ∧ s.get [false, false, false] = G ((0 : Nat) : Int) ∧ h' = frameOf h) .ret (fun s h => s.get [true, true] = .bool (decide ((0 : Int) = N))) := fun y hy e => by
    subst e
    have t2 : Tr tbl J ((.trim L22 c22_b0)) (fun s h' => s.get [] = x ∧ s.get [false] = G N ∧ s.get [true] = G lo ∧ s.get [false, false, false] = G ((0 : Nat) : Int) ∧ h' = frameOf h) (.exit 0) (fun s h => s.get [] = x ∧ s.get [false] = G N) := Tr.region fun s h hp => by
      obtain ⟨g0, g1, g2, g3, rfl⟩ := hp
      rcases hy with rfl | rfl <;> simp (disch := first | omega | exact getEq rfl | exact getO0 | exact Nat.le_of_ble_eq_true rfl) [c22_b0, c22_o2, app_growP, app_noneP, plus_N, plus_at0, put_plus0, put_plus1, upd_N, upd_size, g0, g1, g2, g3]
    have t3 : Tr tbl J ((.seq c22_o6 .ret)) (fun s h => s.get [] = x ∧ s.get [false] = G N) .ret (fun s h => s.get [true, true] = .bool (decide ((0 : Int) = N))) := Tr.region fun s h hp => by
      obtain ⟨g0, g1⟩ := hp
      rcases hy with rfl | rfl <;> by_cases c : (0 : Int) = N <;> simp (disch := first | omega | exact getEq rfl | exact getO0 | exact Nat.le_of_ble_eq_true rfl) [c22_o6, frameOf, Heap.size, Heap.get, Eff.app, Heap.setOwn, g0, g1, c]
    exact Tr.seq (Tr.block (Tr.out t2 (by simp))) t3
  rcases hx.cases with ⟨e, hA⟩ | ⟨e, hA⟩ | ⟨b, v, rfl, g⟩
  · have t1 := nil _ (.inl rfl) e
    subst hA
    exact Tr.post (fun s h q => by simp [c22, q, allIn]) (Tr.seq t0 (Tr.assoc' (Tr.seq t00 t1)))
  · have t1 := nil _ (.inr rfl) e
    subst hA
    exact Tr.post (fun s h q => by simp [c22, q, allIn]) (Tr.seq t0 (Tr.assoc' (Tr.seq t00 t1)))
  · have gg : (frameOf h).get b = .cells 1 v (A.map fun n => AV.int .i64 n) := by
      rcases hx0.cases with ⟨e, _⟩ | ⟨e, _⟩ | ⟨b', v', e, g'⟩
      · cases e
      · cases e
      · simp only [AV.slice.injEq] at e
        obtain ⟨rfl, _, _, rfl⟩ := e
        exact g'
    obtain ⟨l1, l2⟩ := c22_loop (lo := lo) (N := N) J (frameOf h) gg (fun i => List.getElem?_map) rfl hn A.length 0 (by omega)
    rw [List.drop_zero] at l1 l2
    by_cases e : allIn lo 100000000 A = true
    · rw [e, Bool.true_and]
      have t3 : Tr tbl J ((.seq c22_o6 .ret)) (fun s h => s.get [] = .slice b 0 A.length v ∧ s.get [false] = G N) .ret (fun s h => s.get [true, true] = .bool (decide ((A.length : Int) = N))) := Tr.region fun s h hp => by
        obtain ⟨g0, g1⟩ := hp
        generalize A.length = m at *
        by_cases c : (m : Int) = N <;> simp (disch := first | omega | exact getEq rfl | exact getO0 | exact Nat.le_of_ble_eq_true rfl) [c22_o6, frameOf, Heap.size, Heap.get, Eff.app, Heap.setOwn, g0, g1, c]
      exact Tr.post (fun s h q => by simp [c22, q]) (Tr.seq t0 (Tr.seq (Tr.seq t00 (Tr.block (l1 e))) t3))
    · have e' : allIn lo 100000000 A = false := by simpa using e
      rw [e', Bool.false_and]
      exact Tr.post (fun s h q => by simp [c22, q]) (Tr.seq t0 (Tr.seq_out (Tr.seq t00 (Tr.block_out (l2 e') (by simp))) (by simp)))
end
def spec22 : SpecF := fun args h => match args with
  | [x, .int .i64 N, .int .i64 lo] => match lst h x with
    | some A => if A.length < 9223372036854775808 then some (.bool (allIn lo 100000000 A && decide ((A.length : Int) = N)), [], false) else none
    | _ => none
  | _ => none
noncomputable def R16 : CallF := addI R15 22 spec22
theorem s16 : Sound Go.Proofs.Try.prog R16 := Sound.add follows ok s15 (by decide) (fun args h x e => by
  unfold spec22 at e
  split at e
  · split at e
    · rename_i h1
      split at e
      · rename_i hn
        simp only [Option.some.injEq] at e; subst e; exact c22_ok R15 (fun _ _ => rfl) h _ (lst_lr.1 h1) hn
      · cases e
    · cases e
  · cases e)
end Go.Proofs.Ytjeemgaoonapgaa.Ev
