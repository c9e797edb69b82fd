/-
  RollerNarrows answers true at any int, matrix and list, as the evaluator runs it. No condition.
-/
import Derived.Test.YtjeemgaoonapgaaRTame
set_option linter.unusedVariables false
set_option linter.unusedSimpArgs false
namespace Go.Proofs.Ytjeemgaoonapgaa.Ev
open Go Go.AEv

attribute [local simp] evFunc initS evOps_c evTrim_c evSkip_c evExit_c evRet_c evSeq_c evCond_c evBlock_c evDraw_c runOps_n runOps_c exec_n exec_g pure1_c act AOpd.ev T.get T.set T.put evBin evUn forceT_eq forceV_eq forceL_eq evRess evRes one keep runFP_n runFP_c app_none AV.flats AV.flat

/-! ### The plain law -/
section
variable {Y X : Nat → Int} {n : Nat}
theorem cross {a b c d e f : Int} (hb : 0 < b) (hd : 0 < d) (hf : 0 < f) (h1 : a * d ≤ c * b) (h2 : c * f ≤ e * d) : a * f ≤ e * b := by
  have x1 := Int.mul_le_mul_of_nonneg_right h1 (Int.le_of_lt hf)
  have x2 := Int.mul_le_mul_of_nonneg_right h2 (Int.le_of_lt hb)
  have e1 : a * d * f = d * (a * f) := by simp only [Int.mul_assoc, Int.mul_left_comm, Int.mul_comm]
  have e2 : c * b * f = c * f * b := by simp only [Int.mul_assoc, Int.mul_left_comm, Int.mul_comm]
  have e3 : e * d * b = d * (e * b) := by simp only [Int.mul_assoc, Int.mul_left_comm, Int.mul_comm]
  have : d * (a * f) ≤ d * (e * b) := by omega
  exact Int.le_of_mul_le_mul_left this hd
theorem lo_min (hx : ∀ i, i < n → 0 < X i) : ∀ i, i ≤ n → ∀ k, k < i → Y (loI Y X i) * X k ≤ Y k * X (loI Y X i)
  | 0, _, k, hk => absurd hk (by omega)
  | i + 1, hi, k, hk => by
    have ih := lo_min hx i (by omega)
    have e : loI Y X (i + 1) = if Y i * X (loI Y X i) < Y (loI Y X i) * X i then i else loI Y X i := rfl
    have hl : loI Y X i < n := by
      rcases Nat.eq_zero_or_pos i with c | c
      · subst c; show 0 < n; omega
      · have := loI_lt Y X i c; omega
    rw [e]
    by_cases c : Y i * X (loI Y X i) < Y (loI Y X i) * X i
    · rw [if_pos c]
      by_cases hk' : k = i
      · subst hk'; exact Int.le_refl _
      · exact cross (hx i (by omega)) (hx _ hl) (hx k (by omega)) (Int.le_of_lt c) (ih k (by omega))
    · rw [if_neg c]
      by_cases hk' : k = i
      · subst hk'; omega
      · exact ih k (by omega)
theorem hi_max (hx : ∀ i, i < n → 0 < X i) : ∀ i, i ≤ n → ∀ k, k < i → Y k * X (hiI Y X i) ≤ Y (hiI Y X i) * X k
  | 0, _, k, hk => absurd hk (by omega)
  | i + 1, hi, k, hk => by
    have ih := hi_max hx i (by omega)
    have e : hiI Y X (i + 1) = if Y (hiI Y X i) * X i < Y i * X (hiI Y X i) then i else hiI Y X i := rfl
    have hl : hiI Y X i < n := by
      rcases Nat.eq_zero_or_pos i with c | c
      · subst c; show 0 < n; omega
      · have := hiI_lt Y X i c; omega
    rw [e]
    by_cases c : Y (hiI Y X i) * X i < Y i * X (hiI Y X i)
    · rw [if_pos c]
      by_cases hk' : k = i
      · subst hk'; exact Int.le_refl _
      · exact cross (hx k (by omega)) (hx _ hl) (hx i (by omega)) (ih k (by omega)) (Int.le_of_lt c)
    · rw [if_neg c]
      by_cases hk' : k = i
      · subst hk'; omega
      · exact ih k (by omega)
theorem dbl_lt (a b c d : Int) : (2 * a) * (2 * b) < (2 * c) * (2 * d) ↔ a * b < c * d := by
  have e1 : (2 * a) * (2 * b) = 4 * (a * b) := by
    rw [Int.mul_assoc, Int.mul_left_comm a 2 b, ← Int.mul_assoc]; rfl
  have e2 : (2 * c) * (2 * d) = 4 * (c * d) := by
    rw [Int.mul_assoc, Int.mul_left_comm c 2 d, ← Int.mul_assoc]; rfl
  rw [e1, e2]; omega
theorem lo_dbl : ∀ i, loI (fun i => 2 * Y i) (fun i => 2 * X i) i = loI Y X i
  | 0 => rfl
  | i + 1 => by
    show (if 2 * Y i * (2 * X (loI _ _ i)) < 2 * Y (loI _ _ i) * (2 * X i) then i else loI _ _ i) = (if Y i * X (loI Y X i) < Y (loI Y X i) * X i then i else loI Y X i)
    rw [lo_dbl i]
    simp only [dbl_lt]
theorem hi_dbl : ∀ i, hiI (fun i => 2 * Y i) (fun i => 2 * X i) i = hiI Y X i
  | 0 => rfl
  | i + 1 => by
    show (if 2 * Y (hiI _ _ i) * (2 * X i) < 2 * Y i * (2 * X (hiI _ _ i)) then i else hiI _ _ i) = (if Y (hiI Y X i) * X i < Y i * X (hiI Y X i) then i else hiI Y X i)
    rw [hi_dbl i]
    simp only [dbl_lt]
theorem fr_dbl {a b : Int} (h1 : 0 ≤ a) (h2 : 0 < b) : fr (2 * a) (2 * b) = fr a b := by
  obtain ⟨A, rfl⟩ : ∃ A : Nat, a = A := ⟨a.toNat, by omega⟩
  obtain ⟨B, rfl⟩ : ∃ B : Nat, b = B := ⟨b.toNat, by omega⟩
  unfold fr
  have e1 : (2 * (A : Int)).toNat = 2 * A := by omega
  have e2 : (2 * (B : Int)).toNat = 2 * B := by omega
  rw [e1, e2, Nat.gcd_mul_left]
  simp only [Int.toNat_natCast]
  have hg : 0 < Nat.gcd A B := Nat.gcd_pos_of_pos_right _ (by omega)
  rw [show ((2 * Nat.gcd A B : Nat) : Int) = 2 * (Nat.gcd A B : Int) by omega, Int.mul_ediv_mul_of_pos _ _ (by omega), Int.mul_ediv_mul_of_pos _ _ (by omega)]
end
section
variable {M : List (List Int)} {X : List Int}
theorem nxv_dbl (i : Nat) : ∀ j, nxv M (X.map (2 * ·)) i j = 2 * nxv M X i j
  | 0 => rfl
  | j + 1 => by
    have e : (X.map (2 * ·)).getD j 0 = 2 * X.getD j 0 := by
      rw [List.getD_eq_getElem?_getD, List.getD_eq_getElem?_getD, List.getElem?_map]
      cases X[j]? <;> simp
    show nxv M (X.map (2 * ·)) i j + ent M i j * (X.map (2 * ·)).getD j 0 = 2 * (nxv M X i j + ent M i j * X.getD j 0)
    rw [nxv_dbl i j, e, Int.mul_add, Int.mul_left_comm]
theorem bdV_dbl (h : vOk 1 M X) : bdV M (X.map (2 * ·)) = bdV M X := by
  have yx := vOk_yx h
  have h8 := isMat_n h.1
  have l1 := loI_lt (fun i => nxv M X i M.length) (X.getD · 0) M.length (by omega)
  have l2 := hiI_lt (fun i => nxv M X i M.length) (X.getD · 0) M.length (by omega)
  have e1 : (fun i => nxv M (X.map (2 * ·)) i M.length) = fun i => 2 * nxv M X i M.length := by funext i; exact nxv_dbl i _
  have e2 : (fun i => (X.map (2 * ·)).getD i 0) = fun i => 2 * X.getD i 0 := by
    funext i
    rw [List.getD_eq_getElem?_getD, List.getD_eq_getElem?_getD, List.getElem?_map]
    cases X[i]? <;> simp
  unfold bdV
  simp only
  rw [e1, e2, lo_dbl (Y := fun i => nxv M X i M.length) (X := fun i => X.getD i 0), hi_dbl (Y := fun i => nxv M X i M.length) (X := fun i => X.getD i 0)]
  have a1 := (yx.y _ l1).1
  have a2 := (yx.x _ l1).1
  have a3 := (yx.y _ l2).1
  have a4 := (yx.x _ l2).1
  rw [nxv_dbl, nxv_dbl, congrFun e2 (loI _ _ _), congrFun e2 (hiI _ _ _)]
  exact Prod.ext (fr_dbl a1 (by omega)) (fr_dbl a3 (by omega))
theorem nxv_le {A B : List Int} (hm : isMat M = true) {c d : Int} (i : Nat) : ∀ m, (∀ j, j < m → c * A.getD j 0 ≤ d * B.getD j 0) → c * nxv M A i m ≤ d * nxv M B i m
  | 0, _ => by simp [nxv]
  | m + 1, h => by
    have ih := nxv_le hm (A := A) (B := B) (c := c) (d := d) i m (fun j hj => h j (by omega))
    have h1 := Int.mul_le_mul_of_nonneg_left (h m (by omega)) (ent_bd hm i m).1
    show c * (nxv M A i m + ent M i m * A.getD m 0) ≤ d * (nxv M B i m + ent M i m * B.getD m 0)
    rw [Int.mul_add, Int.mul_add, Int.mul_left_comm c, Int.mul_left_comm d]
    omega
/-- The bounds of the next list lie between the bounds. -/
theorem narrow (h : vOk 1 M X) (h2 : vOk 1 M (nxtL M X)) : ∀ k, k < M.length →
    nxv M X (loI (fun i => nxv M X i M.length) (X.getD · 0) M.length) M.length * (nxtL M X).getD k 0 ≤ nxv M (nxtL M X) k M.length * X.getD (loI (fun i => nxv M X i M.length) (X.getD · 0) M.length) 0 ∧
    nxv M (nxtL M X) k M.length * X.getD (hiI (fun i => nxv M X i M.length) (X.getD · 0) M.length) 0 ≤ nxv M X (hiI (fun i => nxv M X i M.length) (X.getD · 0) M.length) M.length * (nxtL M X).getD k 0 := by
  intro k hk
  have yx := vOk_yx h
  have hx : ∀ i, i < M.length → 0 < X.getD i 0 := fun i hi => by have := (yx.x i hi).1; omega
  have m1 := lo_min (Y := fun i => nxv M X i M.length) hx M.length (Nat.le_refl _)
  have m2 := hi_max (Y := fun i => nxv M X i M.length) hx M.length (Nat.le_refl _)
  generalize loI (fun i => nxv M X i M.length) (X.getD · 0) M.length = lo at *
  generalize hiI (fun i => nxv M X i M.length) (X.getD · 0) M.length = hi at *
  have ek : (nxtL M X).getD k 0 = nxv M X k M.length := lf_getD _ hk
  have ej : ∀ j, j < M.length → (nxtL M X).getD j 0 = nxv M X j M.length := fun j hj => lf_getD _ hj
  rw [ek]
  constructor
  · rw [Int.mul_comm (nxv M (nxtL M X) k M.length)]
    refine nxv_le h.1 k M.length fun j hj => ?_
    rw [ej j hj, Int.mul_comm (X.getD lo 0)]
    exact m1 j hj
  · rw [Int.mul_comm (nxv M (nxtL M X) k M.length)]
    refine nxv_le h.1 k M.length fun j hj => ?_
    rw [ej j hj, Int.mul_comm (X.getD hi 0)]
    exact m2 j hj
end

/-! ### Two lists that grow, in two slots -/
structure Two (H0 h : Heap) (xa xb : AV) (La Lb : List Int) : Prop where
  k : Kp (fun _ => False) H0 h
  a0 : ∀ q, blk xa = some q → H0.size ≤ q ∧ blk xb ≠ some q
  b0 : ∀ q, blk xb = some q → H0.size ≤ q
  a : LV h xa (gs La)
  b : LV h xb (gs Lb)
theorem Two.swap {H0 h : Heap} {xa xb : AV} {La Lb : List Int} (t : Two H0 h xa xb La Lb) : Two H0 h xb xa Lb La :=
  ⟨t.k, fun q hq => ⟨t.b0 q hq, fun e => (t.a0 q e).2 hq⟩, fun q hq => (t.a0 q hq).1, t.b, t.a⟩
theorem Two.app {H0 h : Heap} (h0 : Nat) {xa xb : AV} {La Lb : List Int} (t : Two H0 h xa xb La Lb) (z : Int) (hn : La.length ≤ 1000000) :
    ∃ x1 e h2, appA (h.plus [.cells 1 1 [G z]]) h0 none 1 8 1 [G z] xa = some (x1, e) ∧ Eff.app e (h.plus [.cells 1 1 [G z]]) = some h2 ∧ Two H0 h2 x1 xb (La ++ [z]) Lb := by
  have k1 : Kp (fun _ => False) h (h.plus [.cells 1 1 [G z]]) := Kp.plus _ _
  obtain ⟨x1, e, h2, q1, q2, q3, q4, q5, q6⟩ := app_v (h.plus [.cells 1 1 [G z]]) h0 8 (G z) (t.a.kp k1 (fun _ _ => id)) (by simp; omega)
  have hsz : (h.plus [.cells 1 1 [G z]]).size = h.size + 1 := by rw [plus_size]; rfl
  have hb := t.b.kp k1 (fun _ _ => id)
  refine ⟨x1, e, h2, q1, q2, (t.k.trans k1).late q4 (fun q hq => (t.a0 q hq).1), fun q hq => ?_, t.b0, by simpa using q3, hb.kp q4 (fun q hq e => (t.a0 q e).2 hq)⟩
  rcases q5 with h' | ⟨_, h'⟩
  · rw [h'] at hq; exact t.a0 q hq
  · rw [h'] at hq; cases hq
    refine ⟨by have := t.k.size; omega, fun e => ?_⟩
    have := t.b.lt e; omega
theorem Two.ngA {H0 h : Heap} {xa xb : AV} {La Lb : List Int} (t : Two H0 h xa xb La Lb) : NG H0 h xa La := ⟨t.k, fun q hq => (t.a0 q hq).1, t.a⟩

/-! ### What is known -/
structure KnN (J : CallF) : Prop where
  k19 : K19 J
  k20 : K20 J
  k23 : ∀ h, J 23 [] h = some (.bool true, [], false)
  k27 : K27 J
  k28 : K28 J
  k29 : K29 J
theorem knN3 : KnN T3 where
  k19 := fun h y x M X a b c => by
    simp (disch := decide) only [T3, T2, T1, addV_ne, addX_ne]
    exact knR21.k19 h y x M X a b c
  k20 := fun h y x M X a b c => by
    simp (disch := decide) only [T3, T2, T1, addV_ne, addX_ne]
    exact knR21.k20 h y x M X a b c
  k23 := fun h => by
    simp (disch := decide) only [T3, T2, T1, addV_ne, addX_ne]
    exact knR21.k23 h
  k27 := fun x n h a b => by
    simp (disch := decide) only [T3, addX_ne]
    exact k27_2 x n h a b
  k28 := k28
  k29 := fun a b c d h e => by
    simp (disch := decide) only [T3, addX_ne]
    exact k29 a b c d h e

/-! ### The walk -/
section
variable {n : Nat} {x l w tw v : AV} {A : List Int}
abbrev L4a : List Path := [[], [true], [false, false, false], [true, false, false], [false, true, false], [true, true, false]]
theorem w4_num (J : CallF) (k27 : K27 J) {H : Heap} (hv : LR H v A) {i : Nat} (hi : i < n) (h8 : n ≤ 8) (x l tw : AV) : ∃ k : Int, (1 ≤ k ∧ k ≤ 100000) ∧ Tr tbl J (.seq c4_o6 (.seq c4_o7 (.cond (.s [true, true, true, false, false]) c4_o8 .skip))) (fun s h => s.get [] = G n ∧ s.get [true] = v ∧ s.get [false, false, false] = x ∧ s.get [true, false, false] = l ∧ s.get [false, true, false] = tw ∧ s.get [true, true, false] = G i ∧ h = H) .normal (fun s h => s.get [] = G n ∧ s.get [true] = v ∧ s.get [false, false, false] = x ∧ s.get [true, false, false] = l ∧ s.get [false, true, false] = tw ∧ s.get [true, true, false] = G i ∧ s.get [false, false, true] = G k ∧ h = H) := by
  have hs := LR.sl hv
  by_cases c : i < A.length
  · rcases hv.cases with ⟨_, e⟩ | ⟨_, e⟩ | ⟨b, vv, rfl, g⟩
    · rw [e] at c; simp at c
    · rw [e] at c; simp at c
    · have g : H.get b = .cells 1 vv (gs A) := g
      have ex : (gs A)[i]? = some (G (A.getD i 0)) := by rw [lf_of A, gl_at _ c, lf_getD _ c]
      generalize A.getD i 0 = z at *
      have ex' : ∀ h : i < (gs A).length, (gs A)[i] = G z := fun h => by rw [List.getElem?_eq_getElem h] at ex; exact Option.some.inj ex
      have hmd := mdZ_bd z (show (0 : Int) < 100000 by decide)
      have kk := fun h => k27 z 100000 h (by decide) (by decide)
      generalize mdZ z 100000 = md at *
      generalize gs A = ca at *
      generalize A.length = m at *
      refine ⟨1 + md, by omega, ?_⟩
      have t : Tr tbl J ((.seq c4_o6 (.seq c4_o7 (.cond (.s [true, true, true, false, false]) c4_o8 .skip)))) (fun s h => s.get [] = G n ∧ s.get [true] = .slice b 0 m vv ∧ s.get [false, false, false] = x ∧ s.get [true, false, false] = l ∧ s.get [false, true, false] = tw ∧ s.get [true, true, false] = G i ∧ h = H) .normal (fun s h => s.get [] = G n ∧ s.get [true] = .slice b 0 m vv ∧ s.get [false, false, false] = x ∧ s.get [true, false, false] = l ∧ s.get [false, true, false] = tw ∧ s.get [true, true, false] = G i ∧ s.get [false, false, true] = G (1 + md) ∧ h = H) := Tr.region fun s h hp => by
        obtain ⟨g0, g1, g2, g3, g4, g5, rfl⟩ := hp
        simp (disch := first | omega | exact getEq rfl | exact getO0 | exact Nat.le_of_ble_eq_true rfl) [c4_o6, c4_o7, c4_o8, came_some, goI, List.getElem?_cons_zero, List.getElem?_cons_succ, kn, keep, app_growP, app_noneP, plus_N, plus_at0, put_plus0, upd_N, upd_size, putAt, AV.cells, fillA, loadA, takeA, mk, Eff.isAll, Eff.isNone, Eff.commutes, Eff.spares, okPair, apart, eqAgg, fits, LK.fits, allEq, aveq, eqk, mmA, beqT, wrapI, idxI, tdivI, tmodI, decT, decF, ibT, ibF, inT, inF, evScope_c, if_pos, if_neg, g0, g1, g2, g3, g4, g5, g, ex, ex', kk]
      exact t
  · refine ⟨1, by decide, ?_⟩
    generalize A.length = m at *
    have t : Tr tbl J ((.seq c4_o6 (.seq c4_o7 (.cond (.s [true, true, true, false, false]) c4_o8 .skip)))) (fun s h => s.get [] = G n ∧ s.get [true] = v ∧ s.get [false, false, false] = x ∧ s.get [true, false, false] = l ∧ s.get [false, true, false] = tw ∧ s.get [true, true, false] = G i ∧ h = H) .normal (fun s h => s.get [] = G n ∧ s.get [true] = v ∧ s.get [false, false, false] = x ∧ s.get [true, false, false] = l ∧ s.get [false, true, false] = tw ∧ s.get [true, true, false] = G i ∧ s.get [false, false, true] = G 1 ∧ h = H) := Tr.region fun s h hp => by
      obtain ⟨g0, g1, g2, g3, g4, g5, rfl⟩ := hp
      rcases hs with ⟨rfl, rfl⟩ | ⟨rfl, rfl⟩ | ⟨b, vv, rfl⟩ <;> simp (disch := first | omega | exact getEq rfl | exact getO0 | exact Nat.le_of_ble_eq_true rfl) [c4_o6, c4_o7, c4_o8, came_some, goI, List.getElem?_cons_zero, List.getElem?_cons_succ, kn, keep, app_growP, app_noneP, plus_N, plus_at0, put_plus0, upd_N, upd_size, putAt, AV.cells, fillA, loadA, takeA, mk, Eff.isAll, Eff.isNone, Eff.commutes, Eff.spares, okPair, apart, eqAgg, fits, LK.fits, allEq, aveq, eqk, mmA, beqT, wrapI, idxI, tdivI, tmodI, decT, decF, ibT, ibF, inT, inF, evScope_c, if_pos, if_neg, g0, g1, g2, g3, g4, g5]
    exact t
theorem w4_app (J : CallF) {H0 H : Heap} {La Lb : List Int} (t : Two H0 H l tw La Lb) {k : Int} (hk : 1 ≤ k ∧ k ≤ 100000) {i : Nat} (ha : La.length ≤ 8) (hb : Lb.length ≤ 8) :
    ∃ l' tw' H', Two H0 H' l' tw' (La ++ [k]) (Lb ++ [2 * k]) ∧ Tr tbl J (.seq c4_o9 c4_o10) (fun s h => s.get [] = G n ∧ s.get [true] = v ∧ s.get [false, false, false] = x ∧ s.get [true, false, false] = l ∧ s.get [false, true, false] = tw ∧ s.get [true, true, false] = G i ∧ s.get [false, false, true] = G k ∧ h = H) .normal (fun s h => s.get [] = G n ∧ s.get [true] = v ∧ s.get [false, false, false] = x ∧ s.get [true, false, false] = l' ∧ s.get [false, true, false] = tw' ∧ s.get [true, true, false] = G i ∧ h = H') := by
  obtain ⟨l', e1, H1, q1, q2, q3⟩ := t.app H.size k (by omega)
  obtain ⟨tw', e2, H2, r1, r2, r3⟩ := q3.swap.app H1.size (2 * k) (by omega)
  have f1 : (H.plus [.cells 1 1 [G k]]).get H.size = .cells 1 1 [G k] := plus_at0 _ _ _ _ rfl
  have f2 : (H1.plus [.cells 1 1 [G (2 * k)]]).get H1.size = .cells 1 1 [G (2 * k)] := plus_at0 _ _ _ _ rfl
  refine ⟨l', tw', H2, r3.swap, ?_⟩
  have t1 : Tr tbl J (c4_o9) (fun s h => s.get [] = G n ∧ s.get [true] = v ∧ s.get [false, false, false] = x ∧ s.get [true, false, false] = l ∧ s.get [false, true, false] = tw ∧ s.get [true, true, false] = G i ∧ s.get [false, false, true] = G k ∧ h = H) .normal (fun s h => s.get [] = G n ∧ s.get [true] = v ∧ s.get [false, false, false] = x ∧ s.get [true, false, false] = l' ∧ s.get [false, true, false] = tw ∧ s.get [true, true, false] = G i ∧ s.get [false, false, true] = G k ∧ h = H1) := Tr.region fun s h hp => by
    obtain ⟨g0, g1, g2, g3, g4, g5, g6, rfl⟩ := hp
    simp (disch := first | omega | exact getEq rfl | exact getO0 | exact Nat.le_of_ble_eq_true rfl) [c4_o9, came_some, goI, List.getElem?_cons_zero, List.getElem?_cons_succ, kn, keep, app_growP, app_noneP, plus_N, plus_at0, put_plus0, upd_N, upd_size, putAt, AV.cells, fillA, loadA, takeA, mk, Eff.isAll, Eff.isNone, Eff.commutes, Eff.spares, okPair, apart, eqAgg, fits, LK.fits, allEq, aveq, eqk, mmA, beqT, wrapI, idxI, tdivI, tmodI, decT, decF, ibT, ibF, inT, inF, evScope_c, if_pos, if_neg, g0, g1, g2, g3, g4, g5, g6, elems, rdOf, f1, q1, q2]
  have t2 : Tr tbl J (c4_o10) (fun s h => s.get [] = G n ∧ s.get [true] = v ∧ s.get [false, false, false] = x ∧ s.get [true, false, false] = l' ∧ s.get [false, true, false] = tw ∧ s.get [true, true, false] = G i ∧ s.get [false, false, true] = G k ∧ h = H1) .normal (fun s h => s.get [] = G n ∧ s.get [true] = v ∧ s.get [false, false, false] = x ∧ s.get [true, false, false] = l' ∧ s.get [false, true, false] = tw' ∧ s.get [true, true, false] = G i ∧ h = H2) := Tr.region fun s h hp => by
    obtain ⟨g0, g1, g2, g3, g4, g5, g6, rfl⟩ := hp
    simp (disch := first | omega | exact getEq rfl | exact getO0 | exact Nat.le_of_ble_eq_true rfl) [c4_o10, came_some, goI, List.getElem?_cons_zero, List.getElem?_cons_succ, kn, keep, app_growP, app_noneP, plus_N, plus_at0, put_plus0, upd_N, upd_size, putAt, AV.cells, fillA, loadA, takeA, mk, Eff.isAll, Eff.isNone, Eff.commutes, Eff.spares, okPair, apart, eqAgg, fits, LK.fits, allEq, aveq, eqk, mmA, beqT, wrapI, idxI, tdivI, tmodI, decT, decF, ibT, ibF, inT, inF, evScope_c, if_pos, if_neg, g0, g1, g2, g3, g4, g5, g6, elems, rdOf, f2, r1, r2]
  exact Tr.seq t1 t2
/-- The numbers so far. -/
structure Nums (H0 h : Heap) (l tw : AV) (La : List Int) : Prop where
  t : Two H0 h l tw La (La.map (2 * ·))
  i : allIn 1 100000 La = true
theorem w4_round (J : CallF) (k27 : K27 J) {H0 H : Heap} (hv : LR H0 v A) {La : List Int} {i : Nat} (nu : Nums H0 H l tw La) (hl : La.length = i) (hi : i < n) (h8 : n ≤ 8) :
    Tr tbl J (.trim L4a c4_b0) (fun s h => s.get [] = G n ∧ s.get [true] = v ∧ s.get [false, false, false] = x ∧ s.get [true, false, false] = l ∧ s.get [false, true, false] = tw ∧ s.get [true, true, false] = G i ∧ h = H) .normal (fun s h => ∃ l' tw' La', (s.get [] = G n ∧ s.get [true] = v ∧ s.get [false, false, false] = x ∧ s.get [true, false, false] = l' ∧ s.get [false, true, false] = tw' ∧ s.get [true, true, false] = G ((i + 1 : Nat) : Int)) ∧ Nums H0 h l' tw' La' ∧ La'.length = i + 1) := by
  obtain ⟨k, hk, tk⟩ := w4_num J k27 (LR.kp nu.t.k hv) hi h8 x l tw
  obtain ⟨l', tw', H', two, ta⟩ := w4_app (n := n) (x := x) (v := v) (i := i) J nu.t hk (by omega) (by rw [List.length_map]; omega)
  have th : Tr tbl J ((.trim L4a (.seq c4_o5 (.cond (.s [true, false, false, false, false]) .skip (.exit 0))))) (fun s h => s.get [] = G n ∧ s.get [true] = v ∧ s.get [false, false, false] = x ∧ s.get [true, false, false] = l ∧ s.get [false, true, false] = tw ∧ s.get [true, true, false] = G i ∧ h = H) .normal (fun s h => s.get [] = G n ∧ s.get [true] = v ∧ s.get [false, false, false] = x ∧ s.get [true, false, false] = l ∧ s.get [false, true, false] = tw ∧ s.get [true, true, false] = G i ∧ h = H) := Tr.region fun s h hp => by
    obtain ⟨g0, g1, g2, g3, g4, g5, rfl⟩ := hp
    simp (disch := first | omega | exact getEq rfl | exact getO0 | exact Nat.le_of_ble_eq_true rfl) [c4_o5, came_some, goI, List.getElem?_cons_zero, List.getElem?_cons_succ, kn, keep, app_growP, app_noneP, plus_N, plus_at0, put_plus0, upd_N, upd_size, putAt, AV.cells, fillA, loadA, takeA, mk, Eff.isAll, Eff.isNone, Eff.commutes, Eff.spares, okPair, apart, eqAgg, fits, LK.fits, allEq, aveq, eqk, mmA, beqT, wrapI, idxI, tdivI, tmodI, decT, decF, ibT, ibF, inT, inF, evScope_c, if_pos, if_neg, g0, g1, g2, g3, g4, g5]
  have te : Tr tbl J (c4_o11) (fun s h => s.get [] = G n ∧ s.get [true] = v ∧ s.get [false, false, false] = x ∧ s.get [true, false, false] = l' ∧ s.get [false, true, false] = tw' ∧ s.get [true, true, false] = G i ∧ h = H') .normal (fun s h => s.get [] = G n ∧ s.get [true] = v ∧ s.get [false, false, false] = x ∧ s.get [true, false, false] = l' ∧ s.get [false, true, false] = tw' ∧ s.get [true, true, false] = G ((i + 1 : Nat) : Int) ∧ h = H') := Tr.region fun s h hp => by
    obtain ⟨g0, g1, g2, g3, g4, g5, rfl⟩ := hp
    simp (disch := first | omega | exact getEq rfl | exact getO0 | exact Nat.le_of_ble_eq_true rfl) [c4_o11, came_some, goI, List.getElem?_cons_zero, List.getElem?_cons_succ, kn, keep, app_growP, app_noneP, plus_N, plus_at0, put_plus0, upd_N, upd_size, putAt, AV.cells, fillA, loadA, takeA, mk, Eff.isAll, Eff.isNone, Eff.commutes, Eff.spares, okPair, apart, eqAgg, fits, LK.fits, allEq, aveq, eqk, mmA, beqT, wrapI, idxI, tdivI, tmodI, decT, decF, ibT, ibF, inT, inF, evScope_c, if_pos, if_neg, g0, g1, g2, g3, g4, g5]
  refine Tr.post (fun s h q => ⟨l', tw', La ++ [k], ⟨q.1, q.2.1, q.2.2.1, q.2.2.2.1, q.2.2.2.2.1, q.2.2.2.2.2.1⟩, ?_, by simp [hl]⟩) (Tr.trim_seq th (Tr.seq (Tr.block_out (Tr.app2 tk ta) (by simp)) te))
  rw [q.2.2.2.2.2.2]
  refine ⟨by rw [List.map_append]; exact two, ?_⟩
  have := nu.i
  unfold allIn at this ⊢
  rw [List.all_append, this]
  simp [hk]
theorem w4_loop (J : CallF) (k27 : K27 J) {H0 : Heap} (hv : LR H0 v A) (h8 : n ≤ 8) :
    Tr tbl J (.seq c4_o4 (.block 0 c4_l0)) (fun s h => s.get [] = G n ∧ s.get [true] = v ∧ s.get [false, false, false] = x ∧ s.get [true, false, false] = .nils ∧ s.get [false, true, false] = .nils ∧ h = H0) .normal (fun s h => ∃ l tw La, (s.get [] = G n ∧ s.get [false, false, false] = x ∧ s.get [true, false, false] = l ∧ s.get [false, true, false] = tw) ∧ Nums H0 h l tw La ∧ La.length = n) := by
  have t0 : Tr tbl J (c4_o4) (fun s h => s.get [] = G n ∧ s.get [true] = v ∧ s.get [false, false, false] = x ∧ s.get [true, false, false] = .nils ∧ s.get [false, true, false] = .nils ∧ h = H0) .normal (fun s h => s.get [] = G n ∧ s.get [true] = v ∧ s.get [false, false, false] = x ∧ s.get [true, false, false] = .nils ∧ s.get [false, true, false] = .nils ∧ s.get [true, true, false] = G ((0 : Nat) : Int) ∧ h = H0) := Tr.region fun s h hp => by
    obtain ⟨g0, g1, g2, g3, g4, rfl⟩ := hp
    simp (disch := first | omega | exact getEq rfl | exact getO0 | exact Nat.le_of_ble_eq_true rfl) [c4_o4, came_some, goI, List.getElem?_cons_zero, List.getElem?_cons_succ, kn, keep, app_growP, app_noneP, plus_N, plus_at0, put_plus0, upd_N, upd_size, putAt, AV.cells, fillA, loadA, takeA, mk, Eff.isAll, Eff.isNone, Eff.commutes, Eff.spares, okPair, apart, eqAgg, fits, LK.fits, allEq, aveq, eqk, mmA, beqT, wrapI, idxI, tdivI, tmodI, decT, decF, ibT, ibF, inT, inF, evScope_c, if_pos, if_neg, g0, g1, g2, g3, g4]
  have tl := Tr.rounds (tbl := tbl) (I := J) (live := L4a) (c := c4_b0) (e := .exit 0) (M := n)
    (P := fun i s h => ∃ l tw La, (s.get [] = G n ∧ s.get [true] = v ∧ s.get [false, false, false] = x ∧ s.get [true, false, false] = l ∧ s.get [false, true, false] = tw ∧ s.get [true, true, false] = G (i : Nat)) ∧ Nums H0 h l tw La ∧ La.length = i)
    (Q := fun s h => ∃ l tw La, (s.get [] = G n ∧ s.get [false, false, false] = x ∧ s.get [true, false, false] = l ∧ s.get [false, true, false] = tw) ∧ Nums H0 h l tw La ∧ La.length = n)
    (fun i hi => Tr.exx fun l => Tr.exx fun tw => Tr.exx fun La => Tr.fix (F := fun H => Nums H0 H l tw La ∧ La.length = i) (P' := fun H s h => s.get [] = G n ∧ s.get [true] = v ∧ s.get [false, false, false] = x ∧ s.get [true, false, false] = l ∧ s.get [false, true, false] = tw ∧ s.get [true, true, false] = G (i : Nat) ∧ h = H)
      (fun H r => w4_round J k27 hv r.1 r.2 hi h8) (fun s h q => ⟨q.2, q.1.1, q.1.2.1, q.1.2.2.1, q.1.2.2.2.1, q.1.2.2.2.2.1, q.1.2.2.2.2.2, rfl⟩))
    (Tr.exx fun l => Tr.exx fun tw => Tr.exx fun La => Tr.fix (F := fun H => Nums H0 H l tw La ∧ La.length = n) (P' := fun H s h => s.get [] = G n ∧ s.get [true] = v ∧ s.get [false, false, false] = x ∧ s.get [true, false, false] = l ∧ s.get [false, true, false] = tw ∧ s.get [true, true, false] = G n ∧ h = H)
      (fun H r => by
        have t : Tr tbl J ((.trim L4a c4_b0)) (fun s h => s.get [] = G n ∧ s.get [true] = v ∧ s.get [false, false, false] = x ∧ s.get [true, false, false] = l ∧ s.get [false, true, false] = tw ∧ s.get [true, true, false] = G n ∧ h = H) (.exit 0) (fun s h => s.get [] = G n ∧ s.get [false, false, false] = x ∧ s.get [true, false, false] = l ∧ s.get [false, true, false] = tw ∧ h = H) := Tr.region fun s h hp => by
          obtain ⟨g0, g1, g2, g3, g4, g5, rfl⟩ := hp
          simp (disch := first | omega | exact getEq rfl | exact getO0 | exact Nat.le_of_ble_eq_true rfl) [c4_b0, c4_o5, came_some, goI, List.getElem?_cons_zero, List.getElem?_cons_succ, kn, keep, app_growP, app_noneP, plus_N, plus_at0, put_plus0, upd_N, upd_size, putAt, AV.cells, fillA, loadA, takeA, mk, Eff.isAll, Eff.isNone, Eff.commutes, Eff.spares, okPair, apart, eqAgg, fits, LK.fits, allEq, aveq, eqk, mmA, beqT, wrapI, idxI, tdivI, tmodI, decT, decF, ibT, ibF, inT, inF, evScope_c, if_pos, if_neg, g0, g1, g2, g3, g4, g5]
        exact Tr.post (fun s h q => ⟨l, tw, La, ⟨q.1, q.2.1, q.2.2.1, q.2.2.2.1⟩, by rw [q.2.2.2.2]; exact r⟩) t) (fun s h q => ⟨q.2, q.1.1, q.1.2.1, q.1.2.2.1, q.1.2.2.2.1, q.1.2.2.2.2.1, q.1.2.2.2.2.2, rfl⟩))
    (by simp) 0 (by omega)
  refine Tr.seq t0 (Tr.block (Tr.pre (fun s h q => ?_) tl))
  obtain ⟨q1, q2, q3, q4, q5, q6, rfl⟩ := q
  exact ⟨.nils, .nils, [], ⟨q1, q2, q3, q4, q5, q6⟩, ⟨⟨Kp.refl _, fun q e => (by cases e), fun q e => (by cases e), LV.nil _, LV.nil _⟩, rfl⟩, rfl⟩
end
section
variable {n b12 b15 : Nat} {x l w tw : AV} {u1 v1 u2 v2 u3 v3 u4 v4 : Int}
theorem w4_12 (J : CallF) (H : Heap) (k : J 20 [x, l] H = some (.tup [.agg [G u1, G v1], .agg [G u2, G v2], G 0], [], false)) :
    Tr tbl J c4_o12 (fun s h => s.get [] = G n ∧ s.get [false, false, false] = x ∧ s.get [true, false, false] = l ∧ s.get [false, true, false] = tw ∧ h = H) .normal (fun s h => s.get [] = G n ∧ s.get [false, false, false] = x ∧ s.get [true, false, false] = l ∧ s.get [false, true, false] = tw ∧ s.get [true, false, true] = .ptr H.size 0 2 ∧ s.get [false, true, true] = .ptr (H.size + 1) 0 2 ∧ s.get [true, true, true] = G 0 ∧ h = (H.plus [.cells 0 2 [G u1, G v1]]).plus [.cells 0 2 [G u2, G v2]]) := by
  have hsz : ∀ X, (H.plus [X]).size = H.size + 1 := fun X => by rw [plus_size]; rfl
  have t : Tr tbl J (c4_o12) (fun s h => s.get [] = G n ∧ s.get [false, false, false] = x ∧ s.get [true, false, false] = l ∧ s.get [false, true, false] = tw ∧ h = H) .normal (fun s h => s.get [] = G n ∧ s.get [false, false, false] = x ∧ s.get [true, false, false] = l ∧ s.get [false, true, false] = tw ∧ s.get [true, false, true] = .ptr H.size 0 2 ∧ s.get [false, true, true] = .ptr (H.size + 1) 0 2 ∧ s.get [true, true, true] = G 0 ∧ h = (H.plus [.cells 0 2 [G u1, G v1]]).plus [.cells 0 2 [G u2, G v2]]) := Tr.region fun s h hp => by
    obtain ⟨g0, g1, g2, g3, rfl⟩ := hp
    simp (disch := first | omega | exact getEq rfl | exact getO0 | exact Nat.le_of_ble_eq_true rfl) [c4_o12, came_some, goI, List.getElem?_cons_zero, List.getElem?_cons_succ, kn, keep, app_growP, app_noneP, plus_N, plus_at0, put_plus0, upd_N, upd_size, putAt, AV.cells, fillA, loadA, takeA, mk, Eff.isAll, Eff.isNone, Eff.commutes, Eff.spares, okPair, apart, eqAgg, fits, LK.fits, allEq, aveq, eqk, mmA, beqT, wrapI, idxI, tdivI, tmodI, decT, decF, ibT, ibF, inT, inF, evScope_c, if_pos, if_neg, g0, g1, g2, g3, k, hsz, put_two, put_two1]
  exact t
theorem w4_13 (J : CallF) (H : Heap) (k : J 20 [x, tw] H = some (.tup [.agg [G u1, G v1], .agg [G u2, G v2], G 0], [], false)) :
    Tr tbl J c4_o13 (fun s h => s.get [] = G n ∧ s.get [false, false, false] = x ∧ s.get [true, false, false] = l ∧ s.get [false, true, false] = tw ∧ s.get [true, false, true] = .ptr b12 0 2 ∧ s.get [false, true, true] = .ptr (b12 + 1) 0 2 ∧ s.get [true, true, true] = G 0 ∧ h = H) .normal (fun s h => s.get [] = G n ∧ s.get [false, false, false] = x ∧ s.get [true, false, false] = l ∧ s.get [true, false, true] = .ptr b12 0 2 ∧ s.get [false, true, true] = .ptr (b12 + 1) 0 2 ∧ s.get [true, true, true] = G 0 ∧ s.get [false, false, false, false] = .ptr H.size 0 2 ∧ s.get [true, false, false, false] = .ptr (H.size + 1) 0 2 ∧ s.get [false, true, false, false] = G 0 ∧ h = (H.plus [.cells 0 2 [G u1, G v1]]).plus [.cells 0 2 [G u2, G v2]]) := by
  have hsz : ∀ X, (H.plus [X]).size = H.size + 1 := fun X => by rw [plus_size]; rfl
  have t : Tr tbl J (c4_o13) (fun s h => s.get [] = G n ∧ s.get [false, false, false] = x ∧ s.get [true, false, false] = l ∧ s.get [false, true, false] = tw ∧ s.get [true, false, true] = .ptr b12 0 2 ∧ s.get [false, true, true] = .ptr (b12 + 1) 0 2 ∧ s.get [true, true, true] = G 0 ∧ h = H) .normal (fun s h => s.get [] = G n ∧ s.get [false, false, false] = x ∧ s.get [true, false, false] = l ∧ s.get [true, false, true] = .ptr b12 0 2 ∧ s.get [false, true, true] = .ptr (b12 + 1) 0 2 ∧ s.get [true, true, true] = G 0 ∧ s.get [false, false, false, false] = .ptr H.size 0 2 ∧ s.get [true, false, false, false] = .ptr (H.size + 1) 0 2 ∧ s.get [false, true, false, false] = G 0 ∧ h = (H.plus [.cells 0 2 [G u1, G v1]]).plus [.cells 0 2 [G u2, G v2]]) := Tr.region fun s h hp => by
    obtain ⟨g0, g1, g2, g3, g4, g5, g6, rfl⟩ := hp
    simp (disch := first | omega | exact getEq rfl | exact getO0 | exact Nat.le_of_ble_eq_true rfl) [c4_o13, came_some, goI, List.getElem?_cons_zero, List.getElem?_cons_succ, kn, keep, app_growP, app_noneP, plus_N, plus_at0, put_plus0, upd_N, upd_size, putAt, AV.cells, fillA, loadA, takeA, mk, Eff.isAll, Eff.isNone, Eff.commutes, Eff.spares, okPair, apart, eqAgg, fits, LK.fits, allEq, aveq, eqk, mmA, beqT, wrapI, idxI, tdivI, tmodI, decT, decF, ibT, ibF, inT, inF, evScope_c, if_pos, if_neg, g0, g1, g2, g3, g4, g5, g6, k, hsz, put_two, put_two1]
  exact t
theorem w4_14 (J : CallF) (H : Heap) {own : List AObj} (k : J 19 [x, l] H = some (.tup [w, G 0], own, false)) :
    Tr tbl J c4_o14 (fun s h => s.get [] = G n ∧ s.get [false, false, false] = x ∧ s.get [true, false, false] = l ∧ s.get [true, false, true] = .ptr b12 0 2 ∧ s.get [false, true, true] = .ptr (b12 + 1) 0 2 ∧ s.get [true, true, true] = G 0 ∧ s.get [false, false, false, false] = .ptr b15 0 2 ∧ s.get [true, false, false, false] = .ptr (b15 + 1) 0 2 ∧ s.get [false, true, false, false] = G 0 ∧ h = H) .normal (fun s h => s.get [] = G n ∧ s.get [false, false, false] = x ∧ s.get [true, false, true] = .ptr b12 0 2 ∧ s.get [false, true, true] = .ptr (b12 + 1) 0 2 ∧ s.get [true, true, true] = G 0 ∧ s.get [false, false, false, false] = .ptr b15 0 2 ∧ s.get [true, false, false, false] = .ptr (b15 + 1) 0 2 ∧ s.get [false, true, false, false] = G 0 ∧ s.get [true, true, false, false] = w ∧ s.get [false, false, true, false] = G 0 ∧ h = H.plus own) := by
  have t : Tr tbl J (c4_o14) (fun s h => s.get [] = G n ∧ s.get [false, false, false] = x ∧ s.get [true, false, false] = l ∧ s.get [true, false, true] = .ptr b12 0 2 ∧ s.get [false, true, true] = .ptr (b12 + 1) 0 2 ∧ s.get [true, true, true] = G 0 ∧ s.get [false, false, false, false] = .ptr b15 0 2 ∧ s.get [true, false, false, false] = .ptr (b15 + 1) 0 2 ∧ s.get [false, true, false, false] = G 0 ∧ h = H) .normal (fun s h => s.get [] = G n ∧ s.get [false, false, false] = x ∧ s.get [true, false, true] = .ptr b12 0 2 ∧ s.get [false, true, true] = .ptr (b12 + 1) 0 2 ∧ s.get [true, true, true] = G 0 ∧ s.get [false, false, false, false] = .ptr b15 0 2 ∧ s.get [true, false, false, false] = .ptr (b15 + 1) 0 2 ∧ s.get [false, true, false, false] = G 0 ∧ s.get [true, true, false, false] = w ∧ s.get [false, false, true, false] = G 0 ∧ h = H.plus own) := Tr.region fun s h hp => by
    obtain ⟨g0, g1, g2, g3, g4, g5, g6, g7, g8, rfl⟩ := hp
    simp (disch := first | omega | exact getEq rfl | exact getO0 | exact Nat.le_of_ble_eq_true rfl) [c4_o14, came_some, goI, List.getElem?_cons_zero, List.getElem?_cons_succ, kn, keep, app_growP, app_noneP, plus_N, plus_at0, put_plus0, upd_N, upd_size, putAt, AV.cells, fillA, loadA, takeA, mk, Eff.isAll, Eff.isNone, Eff.commutes, Eff.spares, okPair, apart, eqAgg, fits, LK.fits, allEq, aveq, eqk, mmA, beqT, wrapI, idxI, tdivI, tmodI, decT, decF, ibT, ibF, inT, inF, evScope_c, if_pos, if_neg, g0, g1, g2, g3, g4, g5, g6, g7, g8, k, app_if, app_if']
  exact t
theorem w4_15 (J : CallF) (H : Heap) {bo : Nat} (k29 : J 29 [.agg [G u2, G v2], .agg [G u1, G v1]] H = some (.bool false, [], false)) (f12 : H.get b12 = .cells 0 2 [G u1, G v1]) (f13 : H.get (b12 + 1) = .cells 0 2 [G u2, G v2]) (f15 : H.get b15 = .cells 0 2 [G u1, G v1]) (f16 : H.get (b15 + 1) = .cells 0 2 [G u2, G v2]) :
    Tr tbl J (.seq c4_o15 (.cond (.s [true, false, false, true, false, true]) (.seq c4_o16 .ret) .skip)) (fun s h => s.get [] = G n ∧ s.get [false, false, false] = x ∧ s.get [true, false, true] = .ptr b12 0 2 ∧ s.get [false, true, true] = .ptr (b12 + 1) 0 2 ∧ s.get [true, true, true] = G 0 ∧ s.get [false, false, false, false] = .ptr b15 0 2 ∧ s.get [true, false, false, false] = .ptr (b15 + 1) 0 2 ∧ s.get [false, true, false, false] = G 0 ∧ s.get [true, true, false, false] = .slice bo 0 n n ∧ s.get [false, false, true, false] = G 0 ∧ h = H) .normal (fun s h => s.get [] = G n ∧ s.get [false, false, false] = x ∧ s.get [true, false, true] = .ptr b12 0 2 ∧ s.get [false, true, true] = .ptr (b12 + 1) 0 2 ∧ s.get [true, true, false, false] = .slice bo 0 n n ∧ h = H) := by
  have t : Tr tbl J ((.seq c4_o15 (.cond (.s [true, false, false, true, false, true]) (.seq c4_o16 .ret) .skip))) (fun s h => s.get [] = G n ∧ s.get [false, false, false] = x ∧ s.get [true, false, true] = .ptr b12 0 2 ∧ s.get [false, true, true] = .ptr (b12 + 1) 0 2 ∧ s.get [true, true, true] = G 0 ∧ s.get [false, false, false, false] = .ptr b15 0 2 ∧ s.get [true, false, false, false] = .ptr (b15 + 1) 0 2 ∧ s.get [false, true, false, false] = G 0 ∧ s.get [true, true, false, false] = .slice bo 0 n n ∧ s.get [false, false, true, false] = G 0 ∧ h = H) .normal (fun s h => s.get [] = G n ∧ s.get [false, false, false] = x ∧ s.get [true, false, true] = .ptr b12 0 2 ∧ s.get [false, true, true] = .ptr (b12 + 1) 0 2 ∧ s.get [true, true, false, false] = .slice bo 0 n n ∧ h = H) := Tr.region fun s h hp => by
    obtain ⟨g0, g1, g2, g3, g4, g5, g6, g7, g8, g9, rfl⟩ := hp
    simp (disch := first | omega | exact getEq rfl | exact getO0 | exact Nat.le_of_ble_eq_true rfl) [c4_o15, came_some, goI, List.getElem?_cons_zero, List.getElem?_cons_succ, kn, keep, app_growP, app_noneP, plus_N, plus_at0, put_plus0, upd_N, upd_size, putAt, AV.cells, fillA, loadA, takeA, mk, Eff.isAll, Eff.isNone, Eff.commutes, Eff.spares, okPair, apart, eqAgg, fits, LK.fits, allEq, aveq, eqk, mmA, beqT, wrapI, idxI, tdivI, tmodI, decT, decF, ibT, ibF, inT, inF, evScope_c, if_pos, if_neg, g0, g1, g2, g3, g4, g5, g6, g7, g8, g9, k29, f12, f13, f15, f16]
  exact t
theorem w4_22 (J : CallF) (H : Heap) (k : J 20 [x, l] H = some (.tup [.agg [G u1, G v1], .agg [G u2, G v2], G 0], [], false)) :
    Tr tbl J c4_o22 (fun s h => s.get [false, false, false] = x ∧ s.get [true, false, true] = .ptr b12 0 2 ∧ s.get [false, true, true] = .ptr (b12 + 1) 0 2 ∧ s.get [true, true, false, false] = l ∧ h = H) .normal (fun s h => s.get [true, false, true] = .ptr b12 0 2 ∧ s.get [false, true, true] = .ptr (b12 + 1) 0 2 ∧ s.get [false, true, true, false] = .ptr H.size 0 2 ∧ s.get [true, true, true, false] = .ptr (H.size + 1) 0 2 ∧ s.get [false, false, false, true] = G 0 ∧ h = (H.plus [.cells 0 2 [G u1, G v1]]).plus [.cells 0 2 [G u2, G v2]]) := by
  have hsz : ∀ X, (H.plus [X]).size = H.size + 1 := fun X => by rw [plus_size]; rfl
  have t : Tr tbl J (c4_o22) (fun s h => s.get [false, false, false] = x ∧ s.get [true, false, true] = .ptr b12 0 2 ∧ s.get [false, true, true] = .ptr (b12 + 1) 0 2 ∧ s.get [true, true, false, false] = l ∧ h = H) .normal (fun s h => s.get [true, false, true] = .ptr b12 0 2 ∧ s.get [false, true, true] = .ptr (b12 + 1) 0 2 ∧ s.get [false, true, true, false] = .ptr H.size 0 2 ∧ s.get [true, true, true, false] = .ptr (H.size + 1) 0 2 ∧ s.get [false, false, false, true] = G 0 ∧ h = (H.plus [.cells 0 2 [G u1, G v1]]).plus [.cells 0 2 [G u2, G v2]]) := Tr.region fun s h hp => by
    obtain ⟨g0, g1, g2, g3, rfl⟩ := hp
    simp (disch := first | omega | exact getEq rfl | exact getO0 | exact Nat.le_of_ble_eq_true rfl) [c4_o22, came_some, goI, List.getElem?_cons_zero, List.getElem?_cons_succ, kn, keep, app_growP, app_noneP, plus_N, plus_at0, put_plus0, upd_N, upd_size, putAt, AV.cells, fillA, loadA, takeA, mk, Eff.isAll, Eff.isNone, Eff.commutes, Eff.spares, okPair, apart, eqAgg, fits, LK.fits, allEq, aveq, eqk, mmA, beqT, wrapI, idxI, tdivI, tmodI, decT, decF, ibT, ibF, inT, inF, evScope_c, if_pos, if_neg, g0, g1, g2, g3, k, hsz, put_two, put_two1]
  exact t
theorem w4_23 (J : CallF) (H : Heap) {b21 : Nat} (k1 : J 29 [.agg [G u3, G v3], .agg [G u1, G v1]] H = some (.bool false, [], false)) (k2 : J 29 [.agg [G u2, G v2], .agg [G u4, G v4]] H = some (.bool false, [], false)) (k23 : J 23 [] H = some (.bool true, [], false))
    (f12 : H.get b12 = .cells 0 2 [G u1, G v1]) (f13 : H.get (b12 + 1) = .cells 0 2 [G u2, G v2]) (f21 : H.get b21 = .cells 0 2 [G u3, G v3]) (f22 : H.get (b21 + 1) = .cells 0 2 [G u4, G v4]) :
    Tr tbl J (.seq c4_o23 .ret) (fun s h => s.get [true, false, true] = .ptr b12 0 2 ∧ s.get [false, true, true] = .ptr (b12 + 1) 0 2 ∧ s.get [false, true, true, false] = .ptr b21 0 2 ∧ s.get [true, true, true, false] = .ptr (b21 + 1) 0 2 ∧ s.get [false, false, false, true] = G 0 ∧ h = H) .ret (fun s h => s.get [true, true] = .bool true) := by
  have t : Tr tbl J ((.seq c4_o23 .ret)) (fun s h => s.get [true, false, true] = .ptr b12 0 2 ∧ s.get [false, true, true] = .ptr (b12 + 1) 0 2 ∧ s.get [false, true, true, false] = .ptr b21 0 2 ∧ s.get [true, true, true, false] = .ptr (b21 + 1) 0 2 ∧ s.get [false, false, false, true] = G 0 ∧ h = H) .ret (fun s h => s.get [true, true] = .bool true) := Tr.region fun s h hp => by
    obtain ⟨g0, g1, g2, g3, g4, rfl⟩ := hp
    simp (disch := first | omega | exact getEq rfl | exact getO0 | exact Nat.le_of_ble_eq_true rfl) [c4_o23, came_some, goI, List.getElem?_cons_zero, List.getElem?_cons_succ, kn, keep, app_growP, app_noneP, plus_N, plus_at0, put_plus0, upd_N, upd_size, putAt, AV.cells, fillA, loadA, takeA, mk, Eff.isAll, Eff.isNone, Eff.commutes, Eff.spares, okPair, apart, eqAgg, fits, LK.fits, allEq, aveq, eqk, mmA, beqT, wrapI, idxI, tdivI, tmodI, decT, decF, ibT, ibF, inT, inF, evScope_c, if_pos, if_neg, g0, g1, g2, g3, g4, k1, k2, k23, f12, f13, f21, f22]
  exact t
abbrev L4b : List Path := [[], [false, false, false], [true, false, true], [false, true, true], [true, true, false, false], [true, false, true, false]]
/-- Are all the numbers such that Bounds takes them? If not, the law is done. -/
theorem w4_check (J : CallF) (H : Heap) (k23 : J 23 [] H = some (.bool true, [], false)) {bo : Nat} {Y : List Int} (go : H.get bo = .cells 1 n (gs Y)) (hl : Y.length = n) (h8 : n ≤ 8) : ∀ j i, i + j = n →
    (allIn 1 100000000 (Y.drop i) = true → Tr tbl J c4_l1 (fun s h => s.get [] = G n ∧ s.get [false, false, false] = x ∧ s.get [true, false, true] = .ptr b12 0 2 ∧ s.get [false, true, true] = .ptr (b12 + 1) 0 2 ∧ s.get [true, true, false, false] = .slice bo 0 n n ∧ s.get [true, false, true, false] = G i ∧ h = H) (.exit 2) (fun s h => s.get [false, false, false] = x ∧ s.get [true, false, true] = .ptr b12 0 2 ∧ s.get [false, true, true] = .ptr (b12 + 1) 0 2 ∧ s.get [true, true, false, false] = .slice bo 0 n n ∧ h = H)) ∧
    (allIn 1 100000000 (Y.drop i) = false → Tr tbl J c4_l1 (fun s h => s.get [] = G n ∧ s.get [false, false, false] = x ∧ s.get [true, false, true] = .ptr b12 0 2 ∧ s.get [false, true, true] = .ptr (b12 + 1) 0 2 ∧ s.get [true, true, false, false] = .slice bo 0 n n ∧ s.get [true, false, true, false] = G i ∧ h = H) .ret (fun s h => s.get [true, true] = .bool true)) := by
  intro j
  induction j with
  | zero =>
    intro i hi
    obtain rfl : i = n := by omega
    rw [List.drop_of_length_le (by omega)]
    refine ⟨fun _ => ?_, fun hne => by cases hne⟩
    have t : Tr tbl J ((.trim L4b c4_b1)) (fun s h => s.get [] = G i ∧ s.get [false, false, false] = x ∧ s.get [true, false, true] = .ptr b12 0 2 ∧ s.get [false, true, true] = .ptr (b12 + 1) 0 2 ∧ s.get [true, true, false, false] = .slice bo 0 i i ∧ s.get [true, false, true, false] = G i ∧ h = H) (.exit 2) (fun s h => s.get [false, false, false] = x ∧ s.get [true, false, true] = .ptr b12 0 2 ∧ s.get [false, true, true] = .ptr (b12 + 1) 0 2 ∧ s.get [true, true, false, false] = .slice bo 0 i i ∧ h = H) := Tr.region fun s h hp => by
      obtain ⟨g0, g1, g2, g3, g4, g5, rfl⟩ := hp
      simp (disch := first | omega | exact getEq rfl | exact getO0 | exact Nat.le_of_ble_eq_true rfl) [c4_b1, c4_o18, came_some, goI, List.getElem?_cons_zero, List.getElem?_cons_succ, kn, keep, app_growP, app_noneP, plus_N, plus_at0, put_plus0, upd_N, upd_size, putAt, AV.cells, fillA, loadA, takeA, mk, Eff.isAll, Eff.isNone, Eff.commutes, Eff.spares, okPair, apart, eqAgg, fits, LK.fits, allEq, aveq, eqk, mmA, beqT, wrapI, idxI, tdivI, tmodI, decT, decF, ibT, ibF, inT, inF, evScope_c, if_pos, if_neg, g0, g1, g2, g3, g4, g5]
    exact Tr.out t (by simp)
  | succ j ih =>
    intro i hi
    have hia : i < Y.length := by omega
    have ea : Y[i]? = some Y[i] := List.getElem?_eq_getElem hia
    have da : Y.drop i = Y[i] :: Y.drop (i + 1) := List.drop_eq_getElem_cons hia
    rw [da]
    have xa : (gs Y)[i]? = some (G Y[i]) := by rw [List.getElem?_map, ea]; rfl
    clear ea da
    generalize Y[i] = p at *
    have ih' := ih (i + 1) (by omega)
    have xa' : ∀ h : i < (gs Y).length, (gs Y)[i] = G p := fun h => by rw [List.getElem?_eq_getElem h] at xa; exact Option.some.inj xa
    generalize gs Y = cy at *
    by_cases hp : 1 ≤ p ∧ p ≤ 100000000
    ·
      have t : Tr tbl J ((.trim L4b c4_b1)) (fun s h => s.get [] = G n ∧ s.get [false, false, false] = x ∧ s.get [true, false, true] = .ptr b12 0 2 ∧ s.get [false, true, true] = .ptr (b12 + 1) 0 2 ∧ s.get [true, true, false, false] = .slice bo 0 n n ∧ s.get [true, false, true, false] = G i ∧ h = H) .normal (fun s h => s.get [] = G n ∧ s.get [false, false, false] = x ∧ s.get [true, false, true] = .ptr b12 0 2 ∧ s.get [false, true, true] = .ptr (b12 + 1) 0 2 ∧ s.get [true, true, false, false] = .slice bo 0 n n ∧ s.get [true, false, true, false] = G ((i + 1 : Nat) : Int) ∧ h = H) := Tr.region fun s h hp => by
        obtain ⟨g0, g1, g2, g3, g4, g5, rfl⟩ := hp
        simp (disch := first | omega | exact getEq rfl | exact getO0 | exact Nat.le_of_ble_eq_true rfl) [c4_b1, c4_o18, c4_o19, c4_o21, came_some, goI, List.getElem?_cons_zero, List.getElem?_cons_succ, kn, keep, app_growP, app_noneP, plus_N, plus_at0, put_plus0, upd_N, upd_size, putAt, AV.cells, fillA, loadA, takeA, mk, Eff.isAll, Eff.isNone, Eff.commutes, Eff.spares, okPair, apart, eqAgg, fits, LK.fits, allEq, aveq, eqk, mmA, beqT, wrapI, idxI, tdivI, tmodI, decT, decF, ibT, ibF, inT, inF, evScope_c, if_pos, if_neg, g0, g1, g2, g3, g4, g5, go, xa, xa']
      have e1 : allIn 1 100000000 (p :: Y.drop (i + 1)) = allIn 1 100000000 (Y.drop (i + 1)) := by simp [allIn, hp]
      rw [e1]
      exact ⟨fun e => Tr.next t (ih'.1 e), fun e => Tr.next t (ih'.2 e)⟩
    · refine ⟨fun e => by simp [allIn] at e; omega, fun _ => ?_⟩
      by_cases h0 : p < 1
      ·
        have t : Tr tbl J ((.trim L4b c4_b1)) (fun s h => s.get [] = G n ∧ s.get [false, false, false] = x ∧ s.get [true, false, true] = .ptr b12 0 2 ∧ s.get [false, true, true] = .ptr (b12 + 1) 0 2 ∧ s.get [true, true, false, false] = .slice bo 0 n n ∧ s.get [true, false, true, false] = G i ∧ h = H) .ret (fun s h => s.get [true, true] = .bool true) := Tr.region fun s h hp => by
          obtain ⟨g0, g1, g2, g3, g4, g5, rfl⟩ := hp
          simp (disch := first | omega | exact getEq rfl | exact getO0 | exact Nat.le_of_ble_eq_true rfl) [c4_b1, c4_o18, c4_o19, c4_o20, came_some, goI, List.getElem?_cons_zero, List.getElem?_cons_succ, kn, keep, app_growP, app_noneP, plus_N, plus_at0, put_plus0, upd_N, upd_size, putAt, AV.cells, fillA, loadA, takeA, mk, Eff.isAll, Eff.isNone, Eff.commutes, Eff.spares, okPair, apart, eqAgg, fits, LK.fits, allEq, aveq, eqk, mmA, beqT, wrapI, idxI, tdivI, tmodI, decT, decF, ibT, ibF, inT, inF, evScope_c, if_pos, if_neg, g0, g1, g2, g3, g4, g5, go, xa, xa', k23]
        exact Tr.out t (by simp)
      ·
        have t : Tr tbl J ((.trim L4b c4_b1)) (fun s h => s.get [] = G n ∧ s.get [false, false, false] = x ∧ s.get [true, false, true] = .ptr b12 0 2 ∧ s.get [false, true, true] = .ptr (b12 + 1) 0 2 ∧ s.get [true, true, false, false] = .slice bo 0 n n ∧ s.get [true, false, true, false] = G i ∧ h = H) .ret (fun s h => s.get [true, true] = .bool true) := Tr.region fun s h hp => by
          obtain ⟨g0, g1, g2, g3, g4, g5, rfl⟩ := hp
          simp (disch := first | omega | exact getEq rfl | exact getO0 | exact Nat.le_of_ble_eq_true rfl) [c4_b1, c4_o18, c4_o19, c4_o20, came_some, goI, List.getElem?_cons_zero, List.getElem?_cons_succ, kn, keep, app_growP, app_noneP, plus_N, plus_at0, put_plus0, upd_N, upd_size, putAt, AV.cells, fillA, loadA, takeA, mk, Eff.isAll, Eff.isNone, Eff.commutes, Eff.spares, okPair, apart, eqAgg, fits, LK.fits, allEq, aveq, eqk, mmA, beqT, wrapI, idxI, tdivI, tmodI, decT, decF, ibT, ibF, inT, inF, evScope_c, if_pos, if_neg, g0, g1, g2, g3, g4, g5, go, xa, xa', k23]
        exact Tr.out t (by simp)
end
theorem vOk_num {N : List (List Int)} {La : List Int} (hm : isMat N = true) (hl : La.length = N.length) (hi : allIn 1 100000 La = true) : vOk 1 N La ∧ vOk 1 N (La.map (2 * ·)) := by
  unfold allIn at hi
  rw [List.all_eq_true] at hi
  refine ⟨⟨hm, hl, ?_⟩, ⟨hm, by rw [List.length_map]; exact hl, ?_⟩⟩
  · unfold allIn
    rw [List.all_eq_true]
    intro a ha
    have := hi a ha
    simp only [decide_eq_true_eq] at this ⊢
    omega
  · unfold allIn
    rw [List.all_eq_true]
    intro a ha
    obtain ⟨z, hz, rfl⟩ := List.mem_map.1 ha
    have := hi z hz
    simp only [decide_eq_true_eq] at this ⊢
    omega
theorem fr_less {J : CallF} (k29 : K29 J) {y1 x1 y2 x2 : Int} (h1 : 0 ≤ y1 ∧ y1 ≤ 7200000000) (h2 : 1 ≤ x1 ∧ x1 ≤ 100000000) (h3 : 0 ≤ y2 ∧ y2 ≤ 7200000000) (h4 : 1 ≤ x2 ∧ x2 ≤ 100000000) (hle : y2 * x1 ≤ y1 * x2) (H : Heap) : J 29 [.agg [G (frU y1 x1), G (frV y1 x1)], .agg [G (frU y2 x2), G (frV y2 x2)]] H = some (.bool false, [], false) := by
  have f := frOk h1.1 (show 0 < x1 by omega)
  have g := frOk h3.1 (show 0 < x2 by omega)
  have a1 := f.u
  have a2 := f.v
  have a3 := g.u
  have a4 := g.v
  have := k29 (frU y1 x1) (frV y1 x1) (frU y2 x2) (frV y2 x2) H ⟨by omega, by omega, by omega, by omega⟩
  rw [this, decide_eq_false (by rw [fr_lt f g]; omega)]
theorem narrows_law (J : CallF) (K : KnN J) (hJ : ∀ a h, J 4 a h = none) (h : Heap) (a : Int) {m v : AV} {M : List (List Int)} {A : List Int} (hm : MR h m M) (hv : LR h v A) : CallsTo tbl J 4 [G a, m, v] h (.bool true, [], false) := by
  refine Tr.fnv (cf := c4) (e := .ret) (s := T.set (T.set (T.set .leaf [] (G a)) [false] m) [true] v) (by decide) rfl (hJ _ _) rfl rfl rfl (by simp) ?_
  refine Tr.post (Q := (fun s h => s.get [true, true] = .bool true)) (fun s h' q => by simp [c4, q]) ?_
  have hmd := mdZ_bd a (show (0 : Int) < 8 by decide)
  obtain ⟨n, hn⟩ : ∃ n : Nat, 1 + mdZ a 8 = (n : Int) := ⟨(1 + mdZ a 8).toNat, by omega⟩
  have k27 := K.k27 a 8 (frameOf h) (by decide) (by decide)
  have t0 : Tr tbl J ((.seq c4_o0 c4_o1)) (fun s h' => s = T.set (T.set (T.set .leaf [] (G a)) [false] m) [true] v ∧ h' = frameOf h) .normal (fun s h' => s.get [] = G n ∧ s.get [false] = m ∧ s.get [true] = v ∧ h' = frameOf h) := Tr.region fun s h hp => by
    obtain ⟨rfl, rfl⟩ := hp
    rw [← hn]
    generalize mdZ a 8 = z at *
    simp (disch := first | omega | exact getEq rfl | exact getO0 | exact Nat.le_of_ble_eq_true rfl) [c4_o0, c4_o1, came_some, goI, List.getElem?_cons_zero, List.getElem?_cons_succ, kn, keep, app_growP, app_noneP, plus_N, plus_at0, put_plus0, upd_N, upd_size, putAt, AV.cells, fillA, loadA, takeA, mk, Eff.isAll, Eff.isNone, Eff.commutes, Eff.spares, okPair, apart, eqAgg, fits, LK.fits, allEq, aveq, eqk, mmA, beqT, wrapI, idxI, tdivI, tmodI, decT, decF, ibT, ibF, inT, inF, evScope_c, if_pos, if_neg, k27]
  refine Tr.app2 t0 ?_
  have h8 : 1 ≤ n ∧ n ≤ 8 := by omega
  have hm0 : MR (frameOf h) m M := hm.lo []
  have hv0 : LR (frameOf h) v A := LR.lo hv []
  clear hm hv t0
  generalize frameOf h = H0 at *
  obtain ⟨x, own, N, k28, tg, hlN, hq⟩ := K.k28 H0 m M n 9 hm0 h8.2 (by decide)
  have hM : isMat N = true := sqM_mat hq hlN h8 (by decide)
  have t2 : Tr tbl J ((.seq c4_o2 c4_o3)) (fun s h' => s.get [] = G n ∧ s.get [false] = m ∧ s.get [true] = v ∧ h' = H0) .normal (fun s h' => s.get [] = G n ∧ s.get [true] = v ∧ s.get [false, false, false] = x ∧ s.get [true, false, false] = .nils ∧ s.get [false, true, false] = .nils ∧ h' = H0.plus own) := Tr.region fun s h hp => by
    obtain ⟨g0, g1, g2, rfl⟩ := hp
    simp (disch := first | omega | exact getEq rfl | exact getO0 | exact Nat.le_of_ble_eq_true rfl) [c4_o2, c4_o3, came_some, goI, List.getElem?_cons_zero, List.getElem?_cons_succ, kn, keep, app_growP, app_noneP, plus_N, plus_at0, put_plus0, upd_N, upd_size, putAt, AV.cells, fillA, loadA, takeA, mk, Eff.isAll, Eff.isNone, Eff.commutes, Eff.spares, okPair, apart, eqAgg, fits, LK.fits, allEq, aveq, eqk, mmA, beqT, wrapI, idxI, tdivI, tmodI, decT, decF, ibT, ibF, inT, inF, evScope_c, if_pos, if_neg, g0, g1, g2, k28, app_if, app_if']
  refine Tr.app2 t2 ?_
  have hv1 : LR (H0.plus own) v A := LR.kp (Kp.plus _ _) hv0
  have hx := tg.mr
  clear tg k28 t2 hv0 hm0
  generalize H0.plus own = H1 at *
  refine Tr.seq (w4_loop J K.k27 hv1 h8.2) (Tr.exx fun l => Tr.exx fun tw => Tr.exx fun La => Tr.fix (F := fun H => Nums H1 H l tw La ∧ La.length = n) (P' := fun H s h => s.get [] = G n ∧ s.get [false, false, false] = x ∧ s.get [true, false, false] = l ∧ s.get [false, true, false] = tw ∧ h = H) (fun H r => ?_) (fun s h q => ⟨q.2, q.1.1, q.1.2.1, q.1.2.2.1, q.1.2.2.2, rfl⟩))
  obtain ⟨⟨tt, hin⟩, hlen⟩ := r
  have hx := hx.kp tt.k
  have ll : LR H l La := .inl tt.ngA.list
  have lt : LR H tw (La.map (2 * ·)) := .inl tt.swap.ngA.list
  obtain ⟨v1, v2⟩ := vOk_num hM (by rw [hlen, hlN]) hin
  have dbl := bdV_dbl v1
  have k20a := fun H hx ll => K.k20 H x l N La hx ll v1
  have k20b := fun H hx lt => K.k20 H x tw N _ hx lt v2
  rw [dbl] at k20b
  have yx := vOk_yx v1
  have lon := loI_lt (fun i => nxv N La i N.length) (La.getD · 0) N.length (by omega)
  have hin' := hiI_lt (fun i => nxv N La i N.length) (La.getD · 0) N.length (by omega)
  have nar := narrow v1
  have lohi := lo_min (Y := fun i => nxv N La i N.length) (X := (La.getD · 0)) (fun i hi => by have := (yx.x i hi).1; omega) N.length (Nat.le_refl _) _ hin'
  unfold bdV at k20a k20b
  simp only at k20a k20b lohi
  rw [fr_uv, fr_uv] at k20a k20b
  have y1 := yx.y _ lon
  have x1 := yx.x _ lon
  have y2 := yx.y _ hin'
  have x2 := yx.x _ hin'
  try simp only at y1 x1 y2 x2
  generalize hlo : loI (fun i => nxv N La i N.length) (La.getD · 0) N.length = lo at *
  generalize hhi : hiI (fun i => nxv N La i N.length) (La.getD · 0) N.length = hi at *
  have kp2 : ∀ (H : Heap) a b, Kp (fun _ => False) H ((H.plus [a]).plus [b]) := fun H a b => (Kp.plus _ _).trans (Kp.plus _ _)
  have at0 : ∀ (H : Heap) a b, ((H.plus [a]).plus [b]).get H.size = a ∨ a = .hole := fun H a b => by
    by_cases c : a = .hole
    · exact .inr c
    · exact .inl (plus_keep _ (plus_at0 _ _ _ _ rfl) c)
  have at1 : ∀ (H : Heap) a b, ((H.plus [a]).plus [b]).get (H.size + 1) = b := fun H a b => plus_at0 _ _ _ _ (by rw [plus_size]; rfl)
  refine Tr.seq (w4_12 J H (k20a H hx ll)) ?_
  have f12 := (at0 H (.cells 0 2 [G (frU (nxv N La lo N.length) (La.getD lo 0)), G (frV (nxv N La lo N.length) (La.getD lo 0))]) (.cells 0 2 [G (frU (nxv N La hi N.length) (La.getD hi 0)), G (frV (nxv N La hi N.length) (La.getD hi 0))])).resolve_right (by simp)
  have f13 := at1 H (.cells 0 2 [G (frU (nxv N La lo N.length) (La.getD lo 0)), G (frV (nxv N La lo N.length) (La.getD lo 0))]) (.cells 0 2 [G (frU (nxv N La hi N.length) (La.getD hi 0)), G (frV (nxv N La hi N.length) (La.getD hi 0))])
  have kq := kp2 H (.cells 0 2 [G (frU (nxv N La lo N.length) (La.getD lo 0)), G (frV (nxv N La lo N.length) (La.getD lo 0))]) (.cells 0 2 [G (frU (nxv N La hi N.length) (La.getD hi 0)), G (frV (nxv N La hi N.length) (La.getD hi 0))])
  have hx := hx.kp kq
  have ll := LR.kp kq ll
  have lt := LR.kp kq lt
  clear kq tt
  generalize (H.plus [.cells 0 2 [G (frU (nxv N La lo N.length) (La.getD lo 0)), G (frV (nxv N La lo N.length) (La.getD lo 0))]]).plus [.cells 0 2 [G (frU (nxv N La hi N.length) (La.getD hi 0)), G (frV (nxv N La hi N.length) (La.getD hi 0))]] = H2 at *
  generalize H.size = b12 at *
  refine Tr.seq (w4_13 J H2 (k20b H2 hx lt)) ?_
  have f15 := (at0 H2 (.cells 0 2 [G (frU (nxv N La lo N.length) (La.getD lo 0)), G (frV (nxv N La lo N.length) (La.getD lo 0))]) (.cells 0 2 [G (frU (nxv N La hi N.length) (La.getD hi 0)), G (frV (nxv N La hi N.length) (La.getD hi 0))])).resolve_right (by simp)
  have f16 := at1 H2 (.cells 0 2 [G (frU (nxv N La lo N.length) (La.getD lo 0)), G (frV (nxv N La lo N.length) (La.getD lo 0))]) (.cells 0 2 [G (frU (nxv N La hi N.length) (La.getD hi 0)), G (frV (nxv N La hi N.length) (La.getD hi 0))])
  have kq := kp2 H2 (.cells 0 2 [G (frU (nxv N La lo N.length) (La.getD lo 0)), G (frV (nxv N La lo N.length) (La.getD lo 0))]) (.cells 0 2 [G (frU (nxv N La hi N.length) (La.getD hi 0)), G (frV (nxv N La hi N.length) (La.getD hi 0))])
  have hx := hx.kp kq
  have ll := LR.kp kq ll
  have f12 := kq.at f12 (by simp) id
  have f13 := kq.at f13 (by simp) id
  clear kq lt
  generalize (H2.plus [.cells 0 2 [G (frU (nxv N La lo N.length) (La.getD lo 0)), G (frV (nxv N La lo N.length) (La.getD lo 0))]]).plus [.cells 0 2 [G (frU (nxv N La hi N.length) (La.getD hi 0)), G (frV (nxv N La hi N.length) (La.getD hi 0))]] = H3 at *
  generalize H2.size = b15 at *
  obtain ⟨w, own19, k19, ng⟩ := K.k19 H3 x l N La hx ll (vOk_10 v1)
  obtain ⟨bo, rfl, go⟩ := ng.l.sl (by
    intro e
    have h0 : (gs (nxtL N La)).length = N.length := gl_len _ _
    rw [e] at h0
    have h1 : (0 : Nat) = N.length := h0
    omega)
  have ho : (gs (nxtL N La)).length = n := by rw [← hlN]; exact gl_len _ _
  rw [ho] at k19 go
  refine Tr.seq (w4_14 J H3 k19) ?_
  have kq : Kp (fun _ => False) H3 (H3.plus own19) := Kp.plus _ _
  have hx := hx.kp kq
  have f12 := kq.at f12 (by simp) id
  have f13 := kq.at f13 (by simp) id
  have f15 := kq.at f15 (by simp) id
  have f16 := kq.at f16 (by simp) id
  have lw := ng.list
  rw [ho] at lw
  clear kq k19 ng ll
  generalize H3.plus own19 = H4 at *
  refine Tr.seq (w4_15 J H4 (fr_less K.k29 y2 x2 y1 x1 lohi H4) f12 f13 f15 f16) ?_
  have t17 : Tr tbl J (c4_o17) (fun s h => s.get [] = G n ∧ s.get [false, false, false] = x ∧ s.get [true, false, true] = .ptr b12 0 2 ∧ s.get [false, true, true] = .ptr (b12 + 1) 0 2 ∧ s.get [true, true, false, false] = .slice bo 0 n n ∧ h = H4) .normal (fun s h => s.get [] = G n ∧ s.get [false, false, false] = x ∧ s.get [true, false, true] = .ptr b12 0 2 ∧ s.get [false, true, true] = .ptr (b12 + 1) 0 2 ∧ s.get [true, true, false, false] = .slice bo 0 n n ∧ s.get [true, false, true, false] = G ((0 : Nat) : Int) ∧ h = H4) := Tr.region fun s h hp => by
    obtain ⟨g0, g1, g2, g3, g4, rfl⟩ := hp
    simp (disch := first | omega | exact getEq rfl | exact getO0 | exact Nat.le_of_ble_eq_true rfl) [c4_o17, came_some, goI, List.getElem?_cons_zero, List.getElem?_cons_succ, kn, keep, app_growP, app_noneP, plus_N, plus_at0, put_plus0, upd_N, upd_size, putAt, AV.cells, fillA, loadA, takeA, mk, Eff.isAll, Eff.isNone, Eff.commutes, Eff.spares, okPair, apart, eqAgg, fits, LK.fits, allEq, aveq, eqk, mmA, beqT, wrapI, idxI, tdivI, tmodI, decT, decF, ibT, ibF, inT, inF, evScope_c, if_pos, if_neg, g0, g1, g2, g3, g4]
  obtain ⟨l1, l2⟩ := w4_check (x := x) (b12 := b12) J H4 (K.k23 H4) go (show (nxtL N La).length = n by rw [← hlN]; exact lf_len _ _) h8.2 n 0 (by omega)
  rw [List.drop_zero] at l1 l2
  by_cases c : allIn 1 100000000 (nxtL N La) = true
  · have v3 : vOk 1 N (nxtL N La) := ⟨hM, lf_len _ _, c⟩
    have nar := nar v3
    have yx3 := vOk_yx v3
    have lon3 := loI_lt (fun i => nxv N (nxtL N La) i N.length) ((nxtL N La).getD · 0) N.length (by omega)
    have hin3 := hiI_lt (fun i => nxv N (nxtL N La) i N.length) ((nxtL N La).getD · 0) N.length (by omega)
    have k20c := K.k20 H4 x _ N _ hx (.inl lw) v3
    unfold bdV at k20c
    simp only at k20c
    rw [fr_uv, fr_uv] at k20c
    have y3 := yx3.y _ lon3
    have x3 := yx3.x _ lon3
    have y4 := yx3.y _ hin3
    have x4 := yx3.x _ hin3
    try simp only at y3 x3 y4 x4
    have n1 := (nar _ lon3).1
    have n2 := (nar _ hin3).2
    generalize loI (fun i => nxv N (nxtL N La) i N.length) ((nxtL N La).getD · 0) N.length = lo3 at *
    generalize hiI (fun i => nxv N (nxtL N La) i N.length) ((nxtL N La).getD · 0) N.length = hi3 at *
    refine Tr.seq (Tr.seq t17 (Tr.block (l1 c))) (Tr.seq (w4_22 J H4 k20c) ?_)
    have g1 := (at0 H4 (.cells 0 2 [G (frU (nxv N (nxtL N La) lo3 N.length) ((nxtL N La).getD lo3 0)), G (frV (nxv N (nxtL N La) lo3 N.length) ((nxtL N La).getD lo3 0))]) (.cells 0 2 [G (frU (nxv N (nxtL N La) hi3 N.length) ((nxtL N La).getD hi3 0)), G (frV (nxv N (nxtL N La) hi3 N.length) ((nxtL N La).getD hi3 0))])).resolve_right (by simp)
    have g2 := at1 H4 (.cells 0 2 [G (frU (nxv N (nxtL N La) lo3 N.length) ((nxtL N La).getD lo3 0)), G (frV (nxv N (nxtL N La) lo3 N.length) ((nxtL N La).getD lo3 0))]) (.cells 0 2 [G (frU (nxv N (nxtL N La) hi3 N.length) ((nxtL N La).getD hi3 0)), G (frV (nxv N (nxtL N La) hi3 N.length) ((nxtL N La).getD hi3 0))])
    have kq := kp2 H4 (.cells 0 2 [G (frU (nxv N (nxtL N La) lo3 N.length) ((nxtL N La).getD lo3 0)), G (frV (nxv N (nxtL N La) lo3 N.length) ((nxtL N La).getD lo3 0))]) (.cells 0 2 [G (frU (nxv N (nxtL N La) hi3 N.length) ((nxtL N La).getD hi3 0)), G (frV (nxv N (nxtL N La) hi3 N.length) ((nxtL N La).getD hi3 0))])
    exact w4_23 J _ (fr_less K.k29 y3 x3 y1 x1 n1 _) (fr_less K.k29 y2 x2 y4 x4 n2 _) (K.k23 _) (kq.at f12 (by simp) id) (kq.at f13 (by simp) id) g1 g2
  · exact Tr.seq_out (Tr.seq t17 (Tr.block_out (l2 (by simpa using c)) (by simp))) (by simp)
theorem narrows_ok (h : Heap) (a : Int) {m v : AV} {M : List (List Int)} {A : List Int} (hm : MR h m M) (hv : LR h v A) : CallsTo tbl T3 4 [G a, m, v] h (.bool true, [], false) := narrows_law T3 knN3 (fun _ _ => by
  simp (disch := decide) only [T3, T2, T1, R21, R20, R19, R18, R17, R16, R15, R14, R13, R12, R11, R10, R9, R8, R7, R6, R5, R4, R3, R2, R1, addI_ne, addX_ne, addV_ne]; rfl) h a hm hv

end Go.Proofs.Ytjeemgaoonapgaa.Ev
