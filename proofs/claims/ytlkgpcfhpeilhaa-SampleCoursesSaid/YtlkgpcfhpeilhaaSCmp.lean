/-
  What compare answers: which of two fractions is greater. No condition.
-/
import Derived.Test.YtlkgpcfhpeilhaaSSure
import Derived.Test.YtlkgpcfhpeilhaaEvYld
set_option linter.unusedVariables false
set_option linter.unusedSimpArgs false
namespace Go.Proofs.Ytlkgpcfhpeilhaa.Ev
open Go Go.AEv

attribute [local simp] evFunc initS evOps_c evTrim_c evSkip_c evExit_c evRet_c evSeq_c evCond_c evBlock_c evDraw_c runOps_n runOps_c exec_n exec_g pure1_c act AOpd.ev T.get T.set T.put evBin evUn forceT_eq forceV_eq forceL_eq evRess evRes one keep runFP_n runFP_c app_none AV.flats AV.flat

/-- -1, 0 or 1. -/
def sg (x : Int) : Int := if x < 0 then -1 else if 0 < x then 1 else 0

/-- The two fractions in memory. -/
def H2 (lo : Nat → AObj) (a b c d : Int) : Heap := ⟨lo, 0, [.cells 0 2 [G a, G b], .cells 0 2 [G c, G d]]⟩

def cl (x : Int) : Int := if (if x > -1 then x else -1) < 1 then (if x > -1 then x else -1) else 1
theorem cl_sg (x : Int) : cl x = sg x := by
  unfold cl sg; split <;> split <;> split <;> (try split) <;> omega

theorem sg_cases (x : Int) : (x < 0 ∧ sg x = -1) ∨ (x = 0 ∧ sg x = 0) ∨ (0 < x ∧ sg x = 1) := by
  unfold sg; split
  · exact .inl ⟨by omega, rfl⟩
  · split
    · exact .inr (.inr ⟨by omega, rfl⟩)
    · exact .inr (.inl ⟨by omega, rfl⟩)

/-- A step of the comparison: what is left, turned over. -/
theorem sg_step {a b c d q : Int} (hb : 0 < b) (hd : 0 < d) (h1 : a / b = q) (h2 : c / d = q) : sg (d * (a % b) - b * (c % d)) = sg (a * d - c * b) := by
  have e1 := Int.emod_add_mul_ediv a b
  have e2 := Int.emod_add_mul_ediv c d
  rw [h1] at e1; rw [h2] at e2
  have : a * d - c * b = d * (a % b) - b * (c % d) := by
    have x1 : a * d = (a % b) * d + b * q * d := by rw [← Int.add_mul, e1]
    have x2 : c * b = (c % d) * b + d * q * b := by rw [← Int.add_mul, e2]
    have x3 : b * q * d = d * q * b := by simp only [Int.mul_comm, Int.mul_left_comm]
    rw [x1, x2, x3, Int.mul_comm (a % b) d, Int.mul_comm (c % d) b]
    omega
  rw [this]


theorem sg_pos {x : Int} (h : 0 < x) : sg x = 1 := by unfold sg; rw [if_neg (by omega), if_pos h]
theorem sg_neg {x : Int} (h : x < 0) : sg x = -1 := by unfold sg; rw [if_pos h]

theorem quo_lt {a b c d : Int} (hb : 0 < b) (hd : 0 < d) (h : a / b < c / d) : a * d < c * b := by
  have e1 := Int.emod_add_mul_ediv a b
  have e2 := Int.emod_add_mul_ediv c d
  have l1 := Int.emod_lt_of_pos a hb
  have l2 := Int.emod_nonneg c (by omega : d ≠ 0)
  have h1 : a < b * (c / d) := by
    have : b * (a / b + 1) ≤ b * (c / d) := Int.mul_le_mul_of_nonneg_left (by omega) (by omega)
    rw [Int.mul_add, Int.mul_one] at this
    omega
  have h2 : a * d < b * (c / d) * d := Int.mul_lt_mul_of_pos_right h1 hd
  have h3 : d * (c / d) * b ≤ c * b := Int.mul_le_mul_of_nonneg_right (by omega) (by omega)
  have h4 : b * (c / d) * d = d * (c / d) * b := by simp only [Int.mul_comm, Int.mul_left_comm]
  omega

theorem sg_quo {a b c d : Int} (hb : 0 < b) (hd : 0 < d) (h : a / b ≠ c / d) : sg (a / b - c / d) = sg (a * d - c * b) := by
  rcases Int.lt_or_gt_of_ne h with h | h
  · have := quo_lt hb hd h
    rw [sg_neg (by omega), sg_neg (by omega)]
  · have := quo_lt hd hb h
    rw [sg_pos (by omega), sg_pos (by omega)]

theorem sg_rest {a b c d : Int} (hb : 0 < b) (hd : 0 < d) (h : a / b = c / d) (hz : a % b = 0 ∨ c % d = 0) : sg (a % b) - sg (c % d) = sg (a * d - c * b) := by
  rw [← sg_step hb hd rfl h.symm]
  have l1 := Int.emod_nonneg a (by omega : b ≠ 0)
  have l2 := Int.emod_nonneg c (by omega : d ≠ 0)
  generalize a % b = r at *
  generalize c % d = t at *
  have z : sg 0 = 0 := rfl
  rcases hz with rfl | rfl
  · rw [Int.mul_zero, z]
    by_cases ht : t = 0
    · subst ht; rw [Int.mul_zero]; rfl
    · have : 0 < b * t := Int.mul_pos hb (by omega)
      rw [sg_pos (by omega : 0 < t), sg_neg (by omega)]; rfl
  · rw [Int.mul_zero, z]
    by_cases ht : r = 0
    · subst ht; rw [Int.mul_zero]; rfl
    · have : 0 < d * r := Int.mul_pos hd (by omega)
      rw [sg_pos (by omega : 0 < r), sg_pos (by omega)]; rfl


section
variable (I : CallF) (lo : Nat → AObj) {a b c d : Int}
abbrev P55 (a b c d : Int) : SP := (fun s h => s.get [true] = .ptr 0 0 2 ∧ s.get [false, false] = .ptr 1 0 2 ∧ h = H2 lo a b c d)

theorem cmp_eq (ha : 0 ≤ a) (hb : 0 < b) : Tr tbl I (.trim [[true], [false, false]] c55_b0) (P55 lo a b a b) (.exit 0) (fun s h => True) := by
  have t : Tr tbl I ((.trim [[true], [false, false]] c55_b0)) (fun s h => s.get [true] = .ptr 0 0 2 ∧ s.get [false, false] = .ptr 1 0 2 ∧ h = H2 lo a b a b) (.exit 0) (fun s h => True) := Tr.region fun s h hp => by
    obtain ⟨g0, g1, rfl⟩ := hp
    simp (disch := first | omega | exact getEq rfl | exact getO0 | exact Nat.le_of_ble_eq_true rfl) [c55_b0, c55_o1, H2, came_some, goI, List.getElem?_cons_zero, List.getElem?_cons_succ, kn, keep, frameOf, Heap.size, Heap.get, Eff.app, Heap.setOwn, putAt, AV.cells, fillA, loadA, takeA, mk, Eff.isAll, Eff.isNone, Eff.commutes, Eff.spares, okPair, apart, eqAgg, fits, LK.fits, allEq, aveq, eqk, mmA, beqT, wrapI, idxI, tdivI, tmodI, decT, decF, ibT, ibF, inT, inF, evScope_c, if_pos, if_neg, g0, g1]
  exact t

theorem cmp_quo (ha : 0 ≤ a) (hb : 0 < b) (hc : 0 ≤ c) (hd : 0 < d) (ha' : a < 2^63) (hc' : c < 2^63) (hq : a / b ≠ c / d) : Tr tbl I (.trim [[true], [false, false]] c55_b0) (P55 lo a b c d) .ret (fun s h => s.get [true, false] = G (sg (a / b - c / d))) := by
  have hne : (a == c && b == d) = false := by
    rw [Bool.and_eq_false_iff]; by_cases h : a = c
    · subst h; right; simp; rintro rfl; exact hq rfl
    · left; simpa using h
  have b1 : 0 ≤ a / b := Int.ediv_nonneg ha (by omega)
  have b2 : a / b ≤ a := Int.ediv_le_self _ ha
  have b3 : 0 ≤ c / d := Int.ediv_nonneg hc (by omega)
  have b4 : c / d ≤ c := Int.ediv_le_self _ hc
  rcases Int.lt_or_gt_of_ne hq with hlt | hlt
  · rw [sg_neg (by omega)]
    have t : Tr tbl I ((.trim [[true], [false, false]] c55_b0)) (fun s h => s.get [true] = .ptr 0 0 2 ∧ s.get [false, false] = .ptr 1 0 2 ∧ h = H2 lo a b c d) .ret (fun s h => s.get [true, false] = G (-1)) := Tr.region fun s h hp => by
      obtain ⟨g0, g1, rfl⟩ := hp
      simp (disch := first | omega | exact getEq rfl | exact getO0 | exact Nat.le_of_ble_eq_true rfl) [c55_b0, c55_o1, c55_o2, c55_o3, c55_o4, c55_o5, H2, came_some, goI, List.getElem?_cons_zero, List.getElem?_cons_succ, kn, keep, frameOf, Heap.size, Heap.get, Eff.app, Heap.setOwn, putAt, AV.cells, fillA, loadA, takeA, mk, Eff.isAll, Eff.isNone, Eff.commutes, Eff.spares, okPair, apart, eqAgg, fits, LK.fits, allEq, aveq, eqk, mmA, beqT, wrapI, idxI, tdivI, tmodI, decT, decF, ibT, ibF, inT, inF, evScope_c, if_pos, if_neg, g0, g1, hne, hq]
    exact t
  · rw [sg_pos (by omega)]
    have t : Tr tbl I ((.trim [[true], [false, false]] c55_b0)) (fun s h => s.get [true] = .ptr 0 0 2 ∧ s.get [false, false] = .ptr 1 0 2 ∧ h = H2 lo a b c d) .ret (fun s h => s.get [true, false] = G 1) := Tr.region fun s h hp => by
      obtain ⟨g0, g1, rfl⟩ := hp
      simp (disch := first | omega | exact getEq rfl | exact getO0 | exact Nat.le_of_ble_eq_true rfl) [c55_b0, c55_o1, c55_o2, c55_o3, c55_o4, c55_o5, H2, came_some, goI, List.getElem?_cons_zero, List.getElem?_cons_succ, kn, keep, frameOf, Heap.size, Heap.get, Eff.app, Heap.setOwn, putAt, AV.cells, fillA, loadA, takeA, mk, Eff.isAll, Eff.isNone, Eff.commutes, Eff.spares, okPair, apart, eqAgg, fits, LK.fits, allEq, aveq, eqk, mmA, beqT, wrapI, idxI, tdivI, tmodI, decT, decF, ibT, ibF, inT, inF, evScope_c, if_pos, if_neg, g0, g1, hne, hq]
    exact t

theorem cmp_rest (ha : 0 ≤ a) (hb : 0 < b) (hc : 0 ≤ c) (hd : 0 < d) (ha' : a < 2^63) (hc' : c < 2^63) (hb' : b < 2^63) (hd' : d < 2^63) (hn : ¬ (a = c ∧ b = d)) (hq : a / b = c / d) (hz : a % b = 0 ∨ c % d = 0) : Tr tbl I (.trim [[true], [false, false]] c55_b0) (P55 lo a b c d) .ret (fun s h => s.get [true, false] = G (sg (a % b) - sg (c % d))) := by
  have hne : (a == c && b == d) = false := by
    rw [Bool.and_eq_false_iff]; by_cases h : a = c
    · right; simp; exact fun h' => hn ⟨h, h'⟩
    · left; simpa using h
  have b1 : 0 ≤ a / b := Int.ediv_nonneg ha (by omega)
  have b2 : a / b ≤ a := Int.ediv_le_self _ ha
  have b3 : 0 ≤ c / d := Int.ediv_nonneg hc (by omega)
  have b4 : c / d ≤ c := Int.ediv_le_self _ hc
  have l1 := Int.emod_nonneg a (by omega : b ≠ 0)
  have l2 := Int.emod_nonneg c (by omega : d ≠ 0)
  by_cases h0 : a % b = 0
  · by_cases h1 : c % d = 0
    · rw [h0, h1, show sg 0 - sg 0 = 0 from rfl]
      have t : Tr tbl I ((.trim [[true], [false, false]] c55_b0)) (fun s h => s.get [true] = .ptr 0 0 2 ∧ s.get [false, false] = .ptr 1 0 2 ∧ h = H2 lo a b c d) .ret (fun s h => s.get [true, false] = G 0) := Tr.region fun s h hp => by
        obtain ⟨g0, g1, rfl⟩ := hp
        simp (disch := first | omega | exact getEq rfl | exact getO0 | exact Nat.le_of_ble_eq_true rfl) [c55_b0, c55_o1, c55_o2, c55_o3, c55_o4, c55_o6, c55_o7, H2, came_some, goI, List.getElem?_cons_zero, List.getElem?_cons_succ, kn, keep, frameOf, Heap.size, Heap.get, Eff.app, Heap.setOwn, putAt, AV.cells, fillA, loadA, takeA, mk, Eff.isAll, Eff.isNone, Eff.commutes, Eff.spares, okPair, apart, eqAgg, fits, LK.fits, allEq, aveq, eqk, mmA, beqT, wrapI, idxI, tdivI, tmodI, decT, decF, ibT, ibF, inT, inF, evScope_c, if_pos, if_neg, g0, g1, hne, hq, h0, h1]
      exact t
    · rw [h0, sg_pos (by omega : 0 < c % d), show sg 0 - 1 = -1 from rfl]
      have h1' : (c % d == 0) = false := by simpa using h1
      have t : Tr tbl I ((.trim [[true], [false, false]] c55_b0)) (fun s h => s.get [true] = .ptr 0 0 2 ∧ s.get [false, false] = .ptr 1 0 2 ∧ h = H2 lo a b c d) .ret (fun s h => s.get [true, false] = G (-1)) := Tr.region fun s h hp => by
        obtain ⟨g0, g1, rfl⟩ := hp
        simp (disch := first | omega | exact getEq rfl | exact getO0 | exact Nat.le_of_ble_eq_true rfl) [c55_b0, c55_o1, c55_o2, c55_o3, c55_o4, c55_o6, c55_o7, H2, came_some, goI, List.getElem?_cons_zero, List.getElem?_cons_succ, kn, keep, frameOf, Heap.size, Heap.get, Eff.app, Heap.setOwn, putAt, AV.cells, fillA, loadA, takeA, mk, Eff.isAll, Eff.isNone, Eff.commutes, Eff.spares, okPair, apart, eqAgg, fits, LK.fits, allEq, aveq, eqk, mmA, beqT, wrapI, idxI, tdivI, tmodI, decT, decF, ibT, ibF, inT, inF, evScope_c, if_pos, if_neg, g0, g1, hne, hq, h0, h1, h1']
      exact t
  · have h1 : c % d = 0 := by rcases hz with h | h <;> omega
    rw [h1, sg_pos (by omega : 0 < a % b), show 1 - sg 0 = 1 from rfl]
    have h0' : (a % b == 0) = false := by simpa using h0
    have t : Tr tbl I ((.trim [[true], [false, false]] c55_b0)) (fun s h => s.get [true] = .ptr 0 0 2 ∧ s.get [false, false] = .ptr 1 0 2 ∧ h = H2 lo a b c d) .ret (fun s h => s.get [true, false] = G 1) := Tr.region fun s h hp => by
      obtain ⟨g0, g1, rfl⟩ := hp
      simp (disch := first | omega | exact getEq rfl | exact getO0 | exact Nat.le_of_ble_eq_true rfl) [c55_b0, c55_o1, c55_o2, c55_o3, c55_o4, c55_o6, c55_o7, H2, came_some, goI, List.getElem?_cons_zero, List.getElem?_cons_succ, kn, keep, frameOf, Heap.size, Heap.get, Eff.app, Heap.setOwn, putAt, AV.cells, fillA, loadA, takeA, mk, Eff.isAll, Eff.isNone, Eff.commutes, Eff.spares, okPair, apart, eqAgg, fits, LK.fits, allEq, aveq, eqk, mmA, beqT, wrapI, idxI, tdivI, tmodI, decT, decF, ibT, ibF, inT, inF, evScope_c, if_pos, if_neg, g0, g1, hne, hq, h0, h1, h0']
    exact t

theorem cmp_next (ha : 0 ≤ a) (hb : 0 < b) (hc : 0 ≤ c) (hd : 0 < d) (ha' : a < 2^63) (hc' : c < 2^63) (hn : ¬ (a = c ∧ b = d)) (hq : a / b = c / d) (hz : a % b ≠ 0) (hz' : c % d ≠ 0) : Tr tbl I (.trim [[true], [false, false]] c55_b0) (P55 lo a b c d) .normal (P55 lo d (c % d) b (a % b)) := by
  have hne : (a == c && b == d) = false := by
    rw [Bool.and_eq_false_iff]; by_cases h : a = c
    · right; simp; exact fun h' => hn ⟨h, h'⟩
    · left; simpa using h
  have b1 : 0 ≤ a / b := Int.ediv_nonneg ha (by omega)
  have b2 : a / b ≤ a := Int.ediv_le_self _ ha
  have b3 : 0 ≤ c / d := Int.ediv_nonneg hc (by omega)
  have b4 : c / d ≤ c := Int.ediv_le_self _ hc
  have hzz : (a % b == 0) = false := by simpa using hz
  have hzz' : (c % d == 0) = false := by simpa using hz'
  have t : Tr tbl I ((.trim [[true], [false, false]] c55_b0)) (fun s h => s.get [true] = .ptr 0 0 2 ∧ s.get [false, false] = .ptr 1 0 2 ∧ h = H2 lo a b c d) .normal (fun s h => s.get [true] = .ptr 0 0 2 ∧ s.get [false, false] = .ptr 1 0 2 ∧ h = H2 lo d (c % d) b (a % b)) := Tr.region fun s h hp => by
    obtain ⟨g0, g1, rfl⟩ := hp
    simp (disch := first | omega | exact getEq rfl | exact getO0 | exact Nat.le_of_ble_eq_true rfl) [c55_b0, c55_o1, c55_o2, c55_o3, c55_o4, c55_o6, c55_o8, H2, came_some, goI, List.getElem?_cons_zero, List.getElem?_cons_succ, kn, keep, frameOf, Heap.size, Heap.get, Eff.app, Heap.setOwn, putAt, AV.cells, fillA, loadA, takeA, mk, Eff.isAll, Eff.isNone, Eff.commutes, Eff.spares, okPair, apart, eqAgg, fits, LK.fits, allEq, aveq, eqk, mmA, beqT, wrapI, idxI, tdivI, tmodI, decT, decF, ibT, ibF, inT, inF, evScope_c, if_pos, if_neg, g0, g1, hne, hq, hzz, hzz', hz, hz']
  exact t
end

theorem cmp_all (I : CallF) (lo : Nat → AObj) : ∀ (N : Nat) (a b c d : Int), (b + d).toNat ≤ N → 0 ≤ a → 0 < b → 0 ≤ c → 0 < d → a < 2^63 → b < 2^63 → c < 2^63 → d < 2^63 →
    (sg (a * d - c * b) = 0 ∧ Tr tbl I c55_l0 (P55 lo a b c d) (.exit 0) (fun _ _ => True)) ∨ Tr tbl I c55_l0 (P55 lo a b c d) .ret (fun s h => s.get [true, false] = G (sg (a * d - c * b))) := by
  intro N
  induction N with
  | zero => intro a b c d hN; omega
  | succ N ih =>
    intro a b c d hN ha hb hc hd ha' hb' hc' hd'
    by_cases hn : a = c ∧ b = d
    · obtain ⟨rfl, rfl⟩ := hn
      exact .inl ⟨by rw [Int.sub_self]; rfl, Tr.out (cmp_eq I lo ha hb) (by simp)⟩
    · by_cases hq : a / b = c / d
      · by_cases hz : a % b = 0 ∨ c % d = 0
        · right
          rw [← sg_rest hb hd hq hz]
          exact Tr.out (cmp_rest I lo ha hb hc hd ha' hc' hb' hd' hn hq hz) (by simp)
        · have h1 : a % b ≠ 0 := fun h => hz (.inl h)
          have h2 : c % d ≠ 0 := fun h => hz (.inr h)
          have l1 := Int.emod_nonneg a (by omega : b ≠ 0)
          have l2 := Int.emod_nonneg c (by omega : d ≠ 0)
          have l3 := Int.emod_lt_of_pos a hb
          have l4 := Int.emod_lt_of_pos c hd
          have hs := sg_step (a := a) (c := c) hb hd rfl hq.symm
          have := ih d (c % d) b (a % b) (by omega) (by omega) (by omega) (by omega) (by omega) hd' (by omega) hb' (by omega)
          rw [hs] at this
          rcases this with ⟨e, r⟩ | r
          · exact .inl ⟨e, Tr.next (cmp_next I lo ha hb hc hd ha' hc' hn hq h1 h2) r⟩
          · exact .inr (Tr.next (cmp_next I lo ha hb hc hd ha' hc' hn hq h1 h2) r)
      · right
        rw [← sg_quo hb hd hq]
        exact Tr.out (cmp_quo I lo ha hb hc hd ha' hc' hq) (by simp)

def frOk (a b : Int) : Prop := 0 ≤ a ∧ a < 9223372036854775808 ∧ 0 < b ∧ b < 9223372036854775808
instance (a b : Int) : Decidable (frOk a b) := by unfold frOk; infer_instance

theorem c55_ok (I : CallF) (hI : ∀ a h, I 55 a h = none) (a b c d : Int) (h1 : frOk a b) (h2 : frOk c d) : CallsTo tbl I 55 [.agg [G a, G b], .agg [G c, G d]] e0 (G (sg (a * d - c * b)), [], false) := by
  obtain ⟨ha, ha', hb, hb'⟩ := h1
  obtain ⟨hc, hc', hd, hd'⟩ := h2
  refine Tr.fnv (cf := c55) (e := .ret) (s := T.set (T.set .leaf [] (.agg [G a, G b])) [false] (.agg [G c, G d])) (by decide) rfl (hI _ _) rfl rfl rfl (by simp) ?_
  have t : Tr tbl I (c55_o0) (fun s h => s = T.set (T.set .leaf [] (.agg [G a, G b])) [false] (.agg [G c, G d]) ∧ h = ⟨e0.get, 0, []⟩) .normal (fun s h => s.get [true] = .ptr 0 0 2 ∧ s.get [false, false] = .ptr 1 0 2 ∧ h = H2 e0.get a b c d) := Tr.region fun s h hp => by
    obtain ⟨rfl, rfl⟩ := hp
    simp (disch := first | omega | exact getEq rfl | exact getO0 | exact Nat.le_of_ble_eq_true rfl) [c55_o0, came_some, goI, List.getElem?_cons_zero, List.getElem?_cons_succ, kn, keep, frameOf, Heap.size, Heap.get, Eff.app, Heap.setOwn, putAt, AV.cells, fillA, loadA, takeA, mk, Eff.isAll, Eff.isNone, Eff.commutes, Eff.spares, okPair, apart, eqAgg, fits, LK.fits, allEq, aveq, eqk, mmA, beqT, wrapI, idxI, tdivI, tmodI, decT, decF, ibT, ibF, inT, inF, evScope_c, if_pos, if_neg, H2]
  refine Tr.seq t ?_
  rcases cmp_all I e0.get _ a b c d (Nat.le_refl _) ha hb hc hd ha' hb' hc' hd' with ⟨e, r⟩ | r
  · refine Tr.seq (Tr.block r) (Tr.seq (R := (fun s h => s.get [true, false] = G 0)) (Tr.chunk fun s h hp => by simp [c55_o9]) (Tr.post (fun s h q => ?_) Tr.ret))
    simp [c55, q, e]
  · refine Tr.post (fun s h q => ?_) (Tr.seq_out (Tr.block_out r (by simp)) (by simp))
    simp [c55, q]

def spec55 : SpecV
  | [.agg [.int .i64 a, .int .i64 b], .agg [.int .i64 c, .int .i64 d]] => if frOk a b ∧ frOk c d then some (G (sg (a * d - c * b))) else none
  | _ => none
noncomputable def I19 : CallF := addV I18 55 spec55
theorem s19 : Sound Go.Proofs.Try.prog I19 := Sound.addV follows ok s18 (by decide) (fun args v h => by
  unfold spec55 at h
  split at h
  · split at h
    · rename_i hh
      simp only [Option.some.injEq] at h; subst h; exact c55_ok I18 (fun _ _ => rfl) _ _ _ _ hh.1 hh.2
    · cases h
  · cases h)

/-! ### The reference's Less -/
section
variable (I : CallF) {a b c d : Int} {t : Bool}
abbrev P27 (a b c d : Int) (t : Bool) : SP := (fun s h => s.get [false, true] = G a ∧ s.get [true, true] = G b ∧ s.get [false, false, false] = G c ∧ s.get [true, false, false] = G d ∧ s.get [false, true, false] = .bool t)
/-- What Less answers, of the sign of the difference. -/
def lessR (x : Int) (t : Bool) : Bool := if x = 0 then false else (x == -1) != t

theorem less_quo (ha : 0 ≤ a) (hb : 0 < b) (hc : 0 ≤ c) (hd : 0 < d) (ha' : a < 2^63) (hc' : c < 2^63) (hq : a / b ≠ c / d) (H : Heap) : Tr tbl I (.trim [[false, true], [true, true], [false, false, false], [true, false, false], [false, true, false]] c27_b0) (P27 a b c d t) (.exit 0) (P27 a b c d t) := by
  have b1 : 0 ≤ a / b := Int.ediv_nonneg ha (by omega)
  have b2 : a / b ≤ a := Int.ediv_le_self _ ha
  have b3 : 0 ≤ c / d := Int.ediv_nonneg hc (by omega)
  have b4 : c / d ≤ c := Int.ediv_le_self _ hc
  have t : Tr tbl I ((.trim [[false, true], [true, true], [false, false, false], [true, false, false], [false, true, false]] c27_b0)) (fun s h => s.get [false, true] = G a ∧ s.get [true, true] = G b ∧ s.get [false, false, false] = G c ∧ s.get [true, false, false] = G d ∧ s.get [false, true, false] = .bool t) (.exit 0) (fun s h => s.get [false, true] = G a ∧ s.get [true, true] = G b ∧ s.get [false, false, false] = G c ∧ s.get [true, false, false] = G d ∧ s.get [false, true, false] = .bool t) := Tr.region fun s h hp => by
    obtain ⟨g0, g1, g2, g3, g4⟩ := hp
    simp (disch := first | omega | exact getEq rfl | exact getO0 | exact Nat.le_of_ble_eq_true rfl) [c27_b0, c27_o3, came_some, goI, List.getElem?_cons_zero, List.getElem?_cons_succ, kn, keep, frameOf, Heap.size, Heap.get, Eff.app, Heap.setOwn, putAt, AV.cells, fillA, loadA, takeA, mk, Eff.isAll, Eff.isNone, Eff.commutes, Eff.spares, okPair, apart, eqAgg, fits, LK.fits, allEq, aveq, eqk, mmA, beqT, wrapI, idxI, tdivI, tmodI, decT, decF, ibT, ibF, inT, inF, evScope_c, if_pos, if_neg, g0, g1, g2, g3, g4, hq]
  exact t

theorem less_rest (ha : 0 ≤ a) (hb : 0 < b) (hc : 0 ≤ c) (hd : 0 < d) (ha' : a < 2^63) (hc' : c < 2^63) (hq : a / b = c / d) (hz : a % b = 0 ∨ c % d = 0) : Tr tbl I (.trim [[false, true], [true, true], [false, false, false], [true, false, false], [false, true, false]] c27_b0) (P27 a b c d t) .ret (fun s h => s.get [true, false] = .bool (lessR (sg (a % b) - sg (c % d)) t)) := by
  have b1 : 0 ≤ a / b := Int.ediv_nonneg ha (by omega)
  have b2 : a / b ≤ a := Int.ediv_le_self _ ha
  have b3 : 0 ≤ c / d := Int.ediv_nonneg hc (by omega)
  have b4 : c / d ≤ c := Int.ediv_le_self _ hc
  have l1 := Int.emod_nonneg a (by omega : b ≠ 0)
  have l2 := Int.emod_nonneg c (by omega : d ≠ 0)
  by_cases h0 : a % b = 0
  · by_cases h1 : c % d = 0
    · have r : lessR (sg (a % b) - sg (c % d)) t = false := by rw [h0, h1]; rfl
      have t : Tr tbl I ((.trim [[false, true], [true, true], [false, false, false], [true, false, false], [false, true, false]] c27_b0)) (fun s h => s.get [false, true] = G a ∧ s.get [true, true] = G b ∧ s.get [false, false, false] = G c ∧ s.get [true, false, false] = G d ∧ s.get [false, true, false] = .bool t) .ret (fun s h => s.get [true, false] = .bool (lessR (sg (a % b) - sg (c % d)) t)) := Tr.region fun s h hp => by
        obtain ⟨g0, g1, g2, g3, g4⟩ := hp
        rw [r]
        simp (disch := first | omega | exact getEq rfl | exact getO0 | exact Nat.le_of_ble_eq_true rfl) [c27_b0, c27_o3, c27_o4, c27_o5, c27_o6, c27_o7, came_some, goI, List.getElem?_cons_zero, List.getElem?_cons_succ, kn, keep, frameOf, Heap.size, Heap.get, Eff.app, Heap.setOwn, putAt, AV.cells, fillA, loadA, takeA, mk, Eff.isAll, Eff.isNone, Eff.commutes, Eff.spares, okPair, apart, eqAgg, fits, LK.fits, allEq, aveq, eqk, mmA, beqT, wrapI, idxI, tdivI, tmodI, decT, decF, ibT, ibF, inT, inF, evScope_c, if_pos, if_neg, g0, g1, g2, g3, g4, hq, h0, h1]
      exact t
    · have r : lessR (sg (a % b) - sg (c % d)) t = !t := by
        rw [h0, sg_pos (by omega : 0 < c % d)]; cases t <;> rfl
      have h1' : (c % d == 0) = false := by simpa using h1
      have t : Tr tbl I ((.trim [[false, true], [true, true], [false, false, false], [true, false, false], [false, true, false]] c27_b0)) (fun s h => s.get [false, true] = G a ∧ s.get [true, true] = G b ∧ s.get [false, false, false] = G c ∧ s.get [true, false, false] = G d ∧ s.get [false, true, false] = .bool t) .ret (fun s h => s.get [true, false] = .bool (lessR (sg (a % b) - sg (c % d)) t)) := Tr.region fun s h hp => by
        obtain ⟨g0, g1, g2, g3, g4⟩ := hp
        rw [r]
        simp (disch := first | omega | exact getEq rfl | exact getO0 | exact Nat.le_of_ble_eq_true rfl) [c27_b0, c27_o3, c27_o4, c27_o5, c27_o6, c27_o8, came_some, goI, List.getElem?_cons_zero, List.getElem?_cons_succ, kn, keep, frameOf, Heap.size, Heap.get, Eff.app, Heap.setOwn, putAt, AV.cells, fillA, loadA, takeA, mk, Eff.isAll, Eff.isNone, Eff.commutes, Eff.spares, okPair, apart, eqAgg, fits, LK.fits, allEq, aveq, eqk, mmA, beqT, wrapI, idxI, tdivI, tmodI, decT, decF, ibT, ibF, inT, inF, evScope_c, if_pos, if_neg, g0, g1, g2, g3, g4, hq, h0, h1, h1']
      exact t
  · have h1 : c % d = 0 := by rcases hz with h | h <;> omega
    have r : lessR (sg (a % b) - sg (c % d)) t = t := by
      rw [h1, sg_pos (by omega : 0 < a % b)]; cases t <;> rfl
    have h0' : (a % b == 0) = false := by simpa using h0
    have t : Tr tbl I ((.trim [[false, true], [true, true], [false, false, false], [true, false, false], [false, true, false]] c27_b0)) (fun s h => s.get [false, true] = G a ∧ s.get [true, true] = G b ∧ s.get [false, false, false] = G c ∧ s.get [true, false, false] = G d ∧ s.get [false, true, false] = .bool t) .ret (fun s h => s.get [true, false] = .bool (lessR (sg (a % b) - sg (c % d)) t)) := Tr.region fun s h hp => by
      obtain ⟨g0, g1, g2, g3, g4⟩ := hp
      rw [r]
      simp (disch := first | omega | exact getEq rfl | exact getO0 | exact Nat.le_of_ble_eq_true rfl) [c27_b0, c27_o3, c27_o4, c27_o5, c27_o6, c27_o8, came_some, goI, List.getElem?_cons_zero, List.getElem?_cons_succ, kn, keep, frameOf, Heap.size, Heap.get, Eff.app, Heap.setOwn, putAt, AV.cells, fillA, loadA, takeA, mk, Eff.isAll, Eff.isNone, Eff.commutes, Eff.spares, okPair, apart, eqAgg, fits, LK.fits, allEq, aveq, eqk, mmA, beqT, wrapI, idxI, tdivI, tmodI, decT, decF, ibT, ibF, inT, inF, evScope_c, if_pos, if_neg, g0, g1, g2, g3, g4, hq, h0, h1, h0']
    exact t

theorem less_next (ha : 0 ≤ a) (hb : 0 < b) (hc : 0 ≤ c) (hd : 0 < d) (ha' : a < 2^63) (hc' : c < 2^63) (hq : a / b = c / d) (hz : a % b ≠ 0) (hz' : c % d ≠ 0) : Tr tbl I (.trim [[false, true], [true, true], [false, false, false], [true, false, false], [false, true, false]] c27_b0) (P27 a b c d t) .normal (P27 b (a % b) d (c % d) (!t)) := by
  have b1 : 0 ≤ a / b := Int.ediv_nonneg ha (by omega)
  have b2 : a / b ≤ a := Int.ediv_le_self _ ha
  have b3 : 0 ≤ c / d := Int.ediv_nonneg hc (by omega)
  have b4 : c / d ≤ c := Int.ediv_le_self _ hc
  have h0' : (a % b == 0) = false := by simpa using hz
  have h1' : (c % d == 0) = false := by simpa using hz'
  have t : Tr tbl I ((.trim [[false, true], [true, true], [false, false, false], [true, false, false], [false, true, false]] c27_b0)) (fun s h => s.get [false, true] = G a ∧ s.get [true, true] = G b ∧ s.get [false, false, false] = G c ∧ s.get [true, false, false] = G d ∧ s.get [false, true, false] = .bool t) .normal (fun s h => s.get [false, true] = G b ∧ s.get [true, true] = G (a % b) ∧ s.get [false, false, false] = G d ∧ s.get [true, false, false] = G (c % d) ∧ s.get [false, true, false] = .bool (!t)) := Tr.region fun s h hp => by
    obtain ⟨g0, g1, g2, g3, g4⟩ := hp
    simp (disch := first | omega | exact getEq rfl | exact getO0 | exact Nat.le_of_ble_eq_true rfl) [c27_b0, c27_o3, c27_o4, c27_o5, c27_o9, c27_o10, c27_o11, c27_o12, c27_o13, came_some, goI, List.getElem?_cons_zero, List.getElem?_cons_succ, kn, keep, frameOf, Heap.size, Heap.get, Eff.app, Heap.setOwn, putAt, AV.cells, fillA, loadA, takeA, mk, Eff.isAll, Eff.isNone, Eff.commutes, Eff.spares, okPair, apart, eqAgg, fits, LK.fits, allEq, aveq, eqk, mmA, beqT, wrapI, idxI, tdivI, tmodI, decT, decF, ibT, ibF, inT, inF, evScope_c, if_pos, if_neg, g0, g1, g2, g3, g4, hq, h0', h1', hz, hz']
  exact t

theorem lessR_neg (x : Int) (hx : x = -1 ∨ x = 0 ∨ x = 1) (t : Bool) : lessR (-x) (!t) = lessR x t := by
  rcases hx with rfl | rfl | rfl <;> cases t <;> rfl
theorem sg_neg' (x : Int) : sg (-x) = - sg x := by
  unfold sg; split <;> split <;> (try split) <;> (try split) <;> omega

theorem less_all : ∀ (N : Nat) (a b c d : Int) (t : Bool), (b + d).toNat ≤ N → 0 ≤ a → 0 < b → 0 ≤ c → 0 < d → a < 2^63 → b < 2^63 → c < 2^63 → d < 2^63 →
    (∃ a' b' c' d' t', 0 ≤ a' ∧ 0 < b' ∧ 0 ≤ c' ∧ 0 < d' ∧ a' < 2^63 ∧ c' < 2^63 ∧ a' / b' ≠ c' / d' ∧ lessR (sg (a' / b' - c' / d')) t' = lessR (sg (a * d - c * b)) t ∧ Tr tbl I c27_l0 (P27 a b c d t) (.exit 0) (P27 a' b' c' d' t')) ∨ Tr tbl I c27_l0 (P27 a b c d t) .ret (fun s h => s.get [true, false] = .bool (lessR (sg (a * d - c * b)) t)) := by
  intro N
  induction N with
  | zero => intro a b c d t hN; omega
  | succ N ih =>
    intro a b c d t hN ha hb hc hd ha' hb' hc' hd'
    by_cases hq : a / b = c / d
    · by_cases hz : a % b = 0 ∨ c % d = 0
      · right
        rw [← sg_rest hb hd hq hz]
        exact Tr.out (less_rest I ha hb hc hd ha' hc' hq hz) (by simp)
      · have h1 : a % b ≠ 0 := fun h => hz (.inl h)
        have h2 : c % d ≠ 0 := fun h => hz (.inr h)
        have l1 := Int.emod_nonneg a (by omega : b ≠ 0)
        have l2 := Int.emod_nonneg c (by omega : d ≠ 0)
        have l3 := Int.emod_lt_of_pos a hb
        have l4 := Int.emod_lt_of_pos c hd
        have hs := sg_step (a := a) (c := c) hb hd rfl hq.symm
        have hr : lessR (sg (b * (c % d) - d * (a % b))) (!t) = lessR (sg (a * d - c * b)) t := by
          rw [show b * (c % d) - d * (a % b) = -(d * (a % b) - b * (c % d)) by omega, sg_neg', hs, lessR_neg]
          rcases sg_cases (a * d - c * b) with ⟨_, h⟩ | ⟨_, h⟩ | ⟨_, h⟩ <;> simp [h]
        have := ih b (a % b) d (c % d) (!t) (by omega) (by omega) (by omega) (by omega) (by omega) hb' (by omega) hd' (by omega)
        rw [hr] at this
        rcases this with ⟨x1, x2, x3, x4, x5, y1, y2, y3, y4, y5, y6, y7, y8, r⟩ | r
        · exact .inl ⟨x1, x2, x3, x4, x5, y1, y2, y3, y4, y5, y6, y7, y8, Tr.next (less_next I ha hb hc hd ha' hc' hq h1 h2) r⟩
        · exact .inr (Tr.next (less_next I ha hb hc hd ha' hc' hq h1 h2) r)
    · left
      exact ⟨a, b, c, d, t, ha, hb, hc, hd, ha', hc', hq, by rw [sg_quo hb hd hq], Tr.out (less_quo I ha hb hc hd ha' hc' hq e0) (by simp)⟩

theorem c27_ok (hI : ∀ a h, I 27 a h = none) (a b c d : Int) (h1 : frOk a b) (h2 : frOk c d) : CallsTo tbl I 27 [.agg [G a, G b], .agg [G c, G d]] e0 (.bool (decide (a * d < c * b)), [], false) := by
  obtain ⟨ha, ha', hb, hb'⟩ := h1
  obtain ⟨hc, hc', hd, hd'⟩ := h2
  have hl : decide (a * d < c * b) = lessR (sg (a * d - c * b)) false := by
    unfold lessR
    rcases sg_cases (a * d - c * b) with ⟨x, h⟩ | ⟨x, h⟩ | ⟨x, h⟩ <;> simp [h] <;> omega
  rw [hl]
  refine Tr.fnv (cf := c27) (e := .ret) (s := T.set (T.set .leaf [] (.agg [G a, G b])) [false] (.agg [G c, G d])) (by decide) rfl (hI _ _) rfl rfl rfl (by simp) ?_
  have t : Tr tbl I ((.seq c27_o0 (.seq c27_o1 c27_o2))) (fun s h => s = T.set (T.set .leaf [] (.agg [G a, G b])) [false] (.agg [G c, G d]) ∧ h = ⟨e0.get, 0, []⟩) .normal (fun s h => s.get [false, true] = G a ∧ s.get [true, true] = G b ∧ s.get [false, false, false] = G c ∧ s.get [true, false, false] = G d ∧ s.get [false, true, false] = .bool false) := Tr.region fun s h hp => by
    obtain ⟨rfl, rfl⟩ := hp
    simp (disch := first | omega | exact getEq rfl | exact getO0 | exact Nat.le_of_ble_eq_true rfl) [c27_o0, c27_o1, c27_o2, came_some, goI, List.getElem?_cons_zero, List.getElem?_cons_succ, kn, keep, frameOf, Heap.size, Heap.get, Eff.app, Heap.setOwn, putAt, AV.cells, fillA, loadA, takeA, mk, Eff.isAll, Eff.isNone, Eff.commutes, Eff.spares, okPair, apart, eqAgg, fits, LK.fits, allEq, aveq, eqk, mmA, beqT, wrapI, idxI, tdivI, tmodI, decT, decF, ibT, ibF, inT, inF, evScope_c, if_pos, if_neg]
  refine Tr.app3 t ?_
  rcases less_all I _ a b c d false (Nat.le_refl _) ha hb hc hd ha' hb' hc' hd' with ⟨x1, x2, x3, x4, x5, y1, y2, y3, y4, y5, y6, y7, y8, r⟩ | r
  · have b1 : 0 ≤ x1 / x2 := Int.ediv_nonneg y1 (by omega)
    have b2 : x1 / x2 ≤ x1 := Int.ediv_le_self _ y1
    have b3 : 0 ≤ x3 / x4 := Int.ediv_nonneg y3 (by omega)
    have b4 : x3 / x4 ≤ x3 := Int.ediv_le_self _ y3
    have hr : (decide (x1 / x2 < x3 / x4) != x5) = lessR (sg (x1 / x2 - x3 / x4)) x5 := by
      unfold lessR
      rcases Int.lt_or_gt_of_ne y7 with h | h
      · rw [sg_neg (by omega), decide_eq_true h]; rfl
      · rw [sg_pos (by omega), decide_eq_false (by omega)]; rfl
    have t2 : Tr tbl I (c27_o14) (fun s h => s.get [false, true] = G x1 ∧ s.get [true, true] = G x2 ∧ s.get [false, false, false] = G x3 ∧ s.get [true, false, false] = G x4 ∧ s.get [false, true, false] = .bool x5) .normal (fun s h => s.get [true, false] = .bool (lessR (sg (a * d - c * b)) false)) := Tr.region fun s h hp => by
      obtain ⟨g0, g1, g2, g3, g4⟩ := hp
      rw [← y8, ← hr]
      simp (disch := first | omega | exact getEq rfl | exact getO0 | exact Nat.le_of_ble_eq_true rfl) [c27_o14, came_some, goI, List.getElem?_cons_zero, List.getElem?_cons_succ, kn, keep, frameOf, Heap.size, Heap.get, Eff.app, Heap.setOwn, putAt, AV.cells, fillA, loadA, takeA, mk, Eff.isAll, Eff.isNone, Eff.commutes, Eff.spares, okPair, apart, eqAgg, fits, LK.fits, allEq, aveq, eqk, mmA, beqT, wrapI, idxI, tdivI, tmodI, decT, decF, ibT, ibF, inT, inF, evScope_c, if_pos, if_neg, g0, g1, g2, g3, g4, y7]
      cases x5 <;> cases (decide (x1 / x2 < x3 / x4)) <;> rfl
    refine Tr.seq (Tr.block r) (Tr.seq t2 (Tr.post (fun s h q => ?_) Tr.ret))
    simp [c27, q]
  · refine Tr.post (fun s h q => ?_) (Tr.seq_out (Tr.block_out r (by simp)) (by simp))
    simp [c27, q]
end

def spec27 : SpecV
  | [.agg [.int .i64 a, .int .i64 b], .agg [.int .i64 c, .int .i64 d]] => if frOk a b ∧ frOk c d then some (.bool (decide (a * d < c * b))) else none
  | _ => none
noncomputable def I20 : CallF := addV I19 27 spec27
theorem s20 : Sound Go.Proofs.Try.prog I20 := Sound.addV follows ok s19 (by decide) (fun args v h => by
  unfold spec27 at h
  split at h
  · split at h
    · rename_i hh
      simp only [Option.some.injEq] at h; subst h; exact c27_ok I19 (fun _ _ => rfl) _ _ _ _ hh.1 hh.2
    · cases h
  · cases h)

end Go.Proofs.Ytlkgpcfhpeilhaa.Ev
