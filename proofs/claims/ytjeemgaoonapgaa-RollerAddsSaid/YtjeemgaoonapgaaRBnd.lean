/-
  What Bounds and the reference's Bounds answer: the first of the smallest quotients, and of the greatest ones. No condition.
-/
import Derived.Test.YtjeemgaoonapgaaRNext2
set_option linter.unusedVariables false
set_option linter.unusedSimpArgs false
namespace Go.Proofs.Ytjeemgaoonapgaa.Ev
open Go Go.AEv

attribute [local simp] evFunc initS evOps_c evTrim_c evSkip_c evExit_c evRet_c evSeq_c evCond_c evBlock_c evDraw_c runOps_n runOps_c exec_n exec_g pure1_c act AOpd.ev T.get T.set T.put evBin evUn forceT_eq forceV_eq forceL_eq evRess evRes one keep runFP_n runFP_c app_none AV.flats AV.flat

/-! ### Fractions -/
theorem mul_bd {x y : Int} {X Y : Int} (h1 : 0 ≤ x) (h2 : x ≤ X) (h3 : 0 ≤ y) (h4 : y ≤ Y) : 0 ≤ x * y ∧ x * y ≤ X * Y :=
  ⟨Int.mul_nonneg h1 h3, Int.mul_le_mul h2 h4 h3 (by omega)⟩
def frU (y x : Int) : Int := y / (Nat.gcd y.toNat x.toNat : Int)
def frV (y x : Int) : Int := x / (Nat.gcd y.toNat x.toNat : Int)
theorem fr_uv (y x : Int) : fr y x = .agg [G (frU y x), G (frV y x)] := rfl
structure FrOk (y x : Int) : Prop where
  e : ∃ g : Int, 0 < g ∧ y = g * frU y x ∧ x = g * frV y x
  u : 0 ≤ frU y x ∧ frU y x ≤ y
  v : 1 ≤ frV y x ∧ frV y x ≤ x
theorem frOk {y x : Int} (h1 : 0 ≤ y) (h2 : 0 < x) : FrOk y x := by
  obtain ⟨Y, rfl⟩ : ∃ Y : Nat, y = Y := ⟨y.toNat, by omega⟩
  obtain ⟨X, rfl⟩ : ∃ X : Nat, x = X := ⟨x.toNat, by omega⟩
  have hg : 0 < Nat.gcd Y X := Nat.gcd_pos_of_pos_right _ (by omega)
  have eu : frU (Y : Int) (X : Int) = ((Y / Nat.gcd Y X : Nat) : Int) := by unfold frU; simp
  have ev : frV (Y : Int) (X : Int) = ((X / Nat.gcd Y X : Nat) : Int) := by unfold frV; simp
  have m1 := Nat.mul_div_cancel' (Nat.gcd_dvd_left Y X)
  have m2 := Nat.mul_div_cancel' (Nat.gcd_dvd_right Y X)
  have l1 : Y / Nat.gcd Y X ≤ Y := Nat.div_le_self _ _
  have l2 : X / Nat.gcd Y X ≤ X := Nat.div_le_self _ _
  have l3 : 0 < X / Nat.gcd Y X := Nat.div_pos (Nat.le_of_dvd (by omega) (Nat.gcd_dvd_right Y X)) hg
  generalize Y / Nat.gcd Y X = u at *
  generalize X / Nat.gcd Y X = v at *
  refine ⟨⟨(Nat.gcd Y X : Nat), by omega, ?_, ?_⟩, ?_, ?_⟩
  · rw [eu, ← Int.natCast_mul, m1]
  · rw [ev, ← Int.natCast_mul, m2]
  · rw [eu]; omega
  · rw [ev]; omega
theorem fr_lt {a b c d : Int} (f : FrOk a b) (g : FrOk c d) : frU a b * frV c d < frU c d * frV a b ↔ a * d < c * b := by
  obtain ⟨p, p0, p1, p2⟩ := f.e
  obtain ⟨q, q0, q1, q2⟩ := g.e
  have e1 : a * d = (p * q) * (frU a b * frV c d) := by
    calc a * d = (p * frU a b) * (q * frV c d) := by rw [← p1, ← q2]
      _ = _ := by simp only [Int.mul_assoc, Int.mul_left_comm]
  have e2 : c * b = (p * q) * (frU c d * frV a b) := by
    calc c * b = (q * frU c d) * (p * frV a b) := by rw [← q1, ← p2]
      _ = _ := by simp only [Int.mul_assoc, Int.mul_left_comm, Int.mul_comm]
  rw [e1, e2]
  have h0 : 0 < p * q := Int.mul_pos p0 q0
  exact ⟨fun h => Int.mul_lt_mul_of_pos_left h h0, fun h => Int.lt_of_mul_lt_mul_left h (Int.le_of_lt h0)⟩

/-- The first of the smallest quotients among the first i. -/
def loI (Y X : Nat → Int) : Nat → Nat
  | 0 => 0
  | i + 1 => if Y i * X (loI Y X i) < Y (loI Y X i) * X i then i else loI Y X i
def hiI (Y X : Nat → Int) : Nat → Nat
  | 0 => 0
  | i + 1 => if Y (hiI Y X i) * X i < Y i * X (hiI Y X i) then i else hiI Y X i
theorem loI_lt (Y X : Nat → Int) : ∀ i, 0 < i → loI Y X i < i
  | 0, h => absurd h (by omega)
  | 1, _ => by show (if _ then 0 else 0) < 1; split <;> omega
  | i + 2, _ => by
    have := loI_lt Y X (i + 1) (by omega)
    have e : loI Y X (i + 2) = if Y (i + 1) * X (loI Y X (i + 1)) < Y (loI Y X (i + 1)) * X (i + 1) then i + 1 else loI Y X (i + 1) := rfl
    rw [e]; split <;> omega
theorem hiI_lt (Y X : Nat → Int) : ∀ i, 0 < i → hiI Y X i < i
  | 0, h => absurd h (by omega)
  | 1, _ => by show (if _ then 0 else 0) < 1; split <;> omega
  | i + 2, _ => by
    have := hiI_lt Y X (i + 1) (by omega)
    have e : hiI Y X (i + 2) = if Y (hiI Y X (i + 1)) * X (i + 1) < Y (i + 1) * X (hiI Y X (i + 1)) then i + 1 else hiI Y X (i + 1) := rfl
    rw [e]; split <;> omega
/-- The numbers that are compared. -/
structure YX (Y X : Nat → Int) (n : Nat) : Prop where
  y : ∀ i, i < n → 0 ≤ Y i ∧ Y i ≤ 7200000000
  x : ∀ i, i < n → 1 ≤ X i ∧ X i ≤ 100000000

/-! ### The reference's Bounds -/
section
variable {Y X : Nat → Int} {n : Nat}
abbrev L26 : List Path := [[false], [true, false], [false, true], [true, true], [false, false, false], [true, false, false], [false, true, false]]
theorem n26_step (J : CallF) (H : Heap) {bx vx bo vo p4 p5 i lo hi : Nat} {cx co : List AV} (gx : H.get bx = .cells 1 vx cx) (go : H.get bo = .cells 1 vo co) (ex : ∀ i, i < n → cx[i]? = some (G (X i))) (eo : ∀ i, i < n → co[i]? = some (G (Y i))) (hyx : YX Y X n) (hi' : i < n) (hlo : lo < n) (hhi : hi < n) (h8 : n ≤ 8) :
    Tr tbl J (.trim L26 c26_b0) (fun s h => s.get [false] = .slice bx 0 n vx ∧ s.get [true, false] = .ptr p4 0 2 ∧ s.get [false, true] = .ptr p5 0 2 ∧ s.get [true, true] = .slice bo 0 n vo ∧ s.get [false, false, false] = G lo ∧ s.get [true, false, false] = G hi ∧ s.get [false, true, false] = G i ∧ h = H) .normal (fun s h => s.get [false] = .slice bx 0 n vx ∧ s.get [true, false] = .ptr p4 0 2 ∧ s.get [false, true] = .ptr p5 0 2 ∧ s.get [true, true] = .slice bo 0 n vo ∧ s.get [false, false, false] = G ((if Y i * X lo < Y lo * X i then i else lo : Nat) : Int) ∧ s.get [true, false, false] = G ((if Y hi * X i < Y i * X hi then i else hi : Nat) : Int) ∧ s.get [false, true, false] = G ((i + 1 : Nat) : Int) ∧ h = H) := by
  have x1 := ex i hi'
  have x2 := ex lo hlo
  have x3 := ex hi hhi
  have y1 := eo i hi'
  have y2 := eo lo hlo
  have y3 := eo hi hhi
  have m1 := mul_bd (hyx.y i hi').1 (hyx.y i hi').2 (show 0 ≤ X lo by have := hyx.x lo hlo; omega) (hyx.x lo hlo).2
  have m2 := mul_bd (hyx.y lo hlo).1 (hyx.y lo hlo).2 (show 0 ≤ X i by have := hyx.x i hi'; omega) (hyx.x i hi').2
  have m3 := mul_bd (hyx.y i hi').1 (hyx.y i hi').2 (show 0 ≤ X hi by have := hyx.x hi hhi; omega) (hyx.x hi hhi).2
  have m4 := mul_bd (hyx.y hi hhi).1 (hyx.y hi hhi).2 (show 0 ≤ X i by have := hyx.x i hi'; omega) (hyx.x i hi').2
  clear ex eo
  generalize X i = xi at *
  generalize X lo = xl at *
  generalize X hi = xh at *
  generalize Y i = yi at *
  generalize Y lo = yl at *
  generalize Y hi = yh at *
  have x1' : ∀ h : i < cx.length, cx[i] = G xi := fun h => by rw [List.getElem?_eq_getElem h] at x1; exact Option.some.inj x1
  have x2' : ∀ h : lo < cx.length, cx[lo] = G xl := fun h => by rw [List.getElem?_eq_getElem h] at x2; exact Option.some.inj x2
  have x3' : ∀ h : hi < cx.length, cx[hi] = G xh := fun h => by rw [List.getElem?_eq_getElem h] at x3; exact Option.some.inj x3
  have y1' : ∀ h : i < co.length, co[i] = G yi := fun h => by rw [List.getElem?_eq_getElem h] at y1; exact Option.some.inj y1
  have y2' : ∀ h : lo < co.length, co[lo] = G yl := fun h => by rw [List.getElem?_eq_getElem h] at y2; exact Option.some.inj y2
  have y3' : ∀ h : hi < co.length, co[hi] = G yh := fun h => by rw [List.getElem?_eq_getElem h] at y3; exact Option.some.inj y3
  have ta : Tr tbl J ((.seq c26_o4 (.cond (.s [true, false, false, false]) .skip (.exit 0)))) (fun s h => s.get [false] = .slice bx 0 n vx ∧ s.get [true, false] = .ptr p4 0 2 ∧ s.get [false, true] = .ptr p5 0 2 ∧ s.get [true, true] = .slice bo 0 n vo ∧ s.get [false, false, false] = G lo ∧ s.get [true, false, false] = G hi ∧ s.get [false, true, false] = G i ∧ h = H) .normal (fun s h => s.get [false] = .slice bx 0 n vx ∧ s.get [true, false] = .ptr p4 0 2 ∧ s.get [false, true] = .ptr p5 0 2 ∧ s.get [true, true] = .slice bo 0 n vo ∧ s.get [false, false, false] = G lo ∧ s.get [true, false, false] = G hi ∧ s.get [false, true, false] = G i ∧ h = H) := Tr.region fun s h hp => by
    obtain ⟨g0, g1, g2, g3, g4, g5, g6, rfl⟩ := hp
    simp (disch := first | omega | exact getEq rfl | exact getO0 | exact Nat.le_of_ble_eq_true rfl) [c26_o4, came_some, goI, List.getElem?_cons_zero, List.getElem?_cons_succ, kn, keep, app_growP, app_noneP, plus_N, plus_at0, put_plus0, upd_N, upd_size, putAt, AV.cells, fillA, loadA, takeA, mk, Eff.isAll, Eff.isNone, Eff.commutes, Eff.spares, okPair, apart, eqAgg, fits, LK.fits, allEq, aveq, eqk, mmA, beqT, wrapI, idxI, tdivI, tmodI, decT, decF, ibT, ibF, inT, inF, evScope_c, if_pos, if_neg, g0, g1, g2, g3, g4, g5, g6]
  have tt : Tr tbl J (.trim L26 (.seq c26_o4 (.cond (.s [true, false, false, false]) .skip (.exit 0)))) (fun s h => s.get [false] = .slice bx 0 n vx ∧ s.get [true, false] = .ptr p4 0 2 ∧ s.get [false, true] = .ptr p5 0 2 ∧ s.get [true, true] = .slice bo 0 n vo ∧ s.get [false, false, false] = G lo ∧ s.get [true, false, false] = G hi ∧ s.get [false, true, false] = G i ∧ h = H) .normal (fun s h => s.get [false] = .slice bx 0 n vx ∧ s.get [true, false] = .ptr p4 0 2 ∧ s.get [false, true] = .ptr p5 0 2 ∧ s.get [true, true] = .slice bo 0 n vo ∧ s.get [false, false, false] = G lo ∧ s.get [true, false, false] = G hi ∧ s.get [false, true, false] = G i ∧ h = H) := by
    have ta : Tr tbl J ((.trim L26 (.seq c26_o4 (.cond (.s [true, false, false, false]) .skip (.exit 0))))) (fun s h => s.get [false] = .slice bx 0 n vx ∧ s.get [true, false] = .ptr p4 0 2 ∧ s.get [false, true] = .ptr p5 0 2 ∧ s.get [true, true] = .slice bo 0 n vo ∧ s.get [false, false, false] = G lo ∧ s.get [true, false, false] = G hi ∧ s.get [false, true, false] = G i ∧ h = H) .normal (fun s h => s.get [false] = .slice bx 0 n vx ∧ s.get [true, false] = .ptr p4 0 2 ∧ s.get [false, true] = .ptr p5 0 2 ∧ s.get [true, true] = .slice bo 0 n vo ∧ s.get [false, false, false] = G lo ∧ s.get [true, false, false] = G hi ∧ s.get [false, true, false] = G i ∧ h = H) := Tr.region fun s h hp => by
      obtain ⟨g0, g1, g2, g3, g4, g5, g6, rfl⟩ := hp
      simp (disch := first | omega | exact getEq rfl | exact getO0 | exact Nat.le_of_ble_eq_true rfl) [c26_o4, came_some, goI, List.getElem?_cons_zero, List.getElem?_cons_succ, kn, keep, app_growP, app_noneP, plus_N, plus_at0, put_plus0, upd_N, upd_size, putAt, AV.cells, fillA, loadA, takeA, mk, Eff.isAll, Eff.isNone, Eff.commutes, Eff.spares, okPair, apart, eqAgg, fits, LK.fits, allEq, aveq, eqk, mmA, beqT, wrapI, idxI, tdivI, tmodI, decT, decF, ibT, ibF, inT, inF, evScope_c, if_pos, if_neg, g0, g1, g2, g3, g4, g5, g6]
    exact ta
  have tb : Tr tbl J (.seq c26_o5 (.cond (.s [false, true, true, false, false]) c26_o6 .skip)) (fun s h => s.get [false] = .slice bx 0 n vx ∧ s.get [true, false] = .ptr p4 0 2 ∧ s.get [false, true] = .ptr p5 0 2 ∧ s.get [true, true] = .slice bo 0 n vo ∧ s.get [false, false, false] = G lo ∧ s.get [true, false, false] = G hi ∧ s.get [false, true, false] = G i ∧ h = H) .normal (fun s h => s.get [false] = .slice bx 0 n vx ∧ s.get [true, false] = .ptr p4 0 2 ∧ s.get [false, true] = .ptr p5 0 2 ∧ s.get [true, true] = .slice bo 0 n vo ∧ s.get [false, false, false] = G ((if yi * xl < yl * xi then i else lo : Nat) : Int) ∧ s.get [true, false, false] = G hi ∧ s.get [false, true, false] = G i ∧ h = H) := by
    by_cases c : yi * xl < yl * xi
    · rw [if_pos c]
      have t : Tr tbl J ((.seq c26_o5 (.cond (.s [false, true, true, false, false]) c26_o6 .skip))) (fun s h => s.get [false] = .slice bx 0 n vx ∧ s.get [true, false] = .ptr p4 0 2 ∧ s.get [false, true] = .ptr p5 0 2 ∧ s.get [true, true] = .slice bo 0 n vo ∧ s.get [false, false, false] = G lo ∧ s.get [true, false, false] = G hi ∧ s.get [false, true, false] = G i ∧ h = H) .normal (fun s h => s.get [false] = .slice bx 0 n vx ∧ s.get [true, false] = .ptr p4 0 2 ∧ s.get [false, true] = .ptr p5 0 2 ∧ s.get [true, true] = .slice bo 0 n vo ∧ s.get [false, false, false] = G i ∧ s.get [true, false, false] = G hi ∧ s.get [false, true, false] = G i ∧ h = H) := Tr.region fun s h hp => by
        obtain ⟨g0, g1, g2, g3, g4, g5, g6, rfl⟩ := hp
        simp (disch := first | omega | exact getEq rfl | exact getO0 | exact Nat.le_of_ble_eq_true rfl) [-evDraw_c, c26_o5, c26_o6, came_some, goI, List.getElem?_cons_zero, List.getElem?_cons_succ, kn, keep, app_growP, app_noneP, plus_N, plus_at0, put_plus0, upd_N, upd_size, putAt, AV.cells, fillA, loadA, takeA, mk, Eff.isAll, Eff.isNone, Eff.commutes, Eff.spares, okPair, apart, eqAgg, fits, LK.fits, allEq, aveq, eqk, mmA, beqT, wrapI, idxI, tdivI, tmodI, decT, decF, ibT, ibF, inT, inF, evScope_c, if_pos, if_neg, g0, g1, g2, g3, g4, g5, g6, evDraw_0, gx, go, x1, x2, y1, y2, x1', x2', y1', y2', c]
      exact t
    · rw [if_neg c]
      have t : Tr tbl J ((.seq c26_o5 (.cond (.s [false, true, true, false, false]) c26_o6 .skip))) (fun s h => s.get [false] = .slice bx 0 n vx ∧ s.get [true, false] = .ptr p4 0 2 ∧ s.get [false, true] = .ptr p5 0 2 ∧ s.get [true, true] = .slice bo 0 n vo ∧ s.get [false, false, false] = G lo ∧ s.get [true, false, false] = G hi ∧ s.get [false, true, false] = G i ∧ h = H) .normal (fun s h => s.get [false] = .slice bx 0 n vx ∧ s.get [true, false] = .ptr p4 0 2 ∧ s.get [false, true] = .ptr p5 0 2 ∧ s.get [true, true] = .slice bo 0 n vo ∧ s.get [false, false, false] = G lo ∧ s.get [true, false, false] = G hi ∧ s.get [false, true, false] = G i ∧ h = H) := Tr.region fun s h hp => by
        obtain ⟨g0, g1, g2, g3, g4, g5, g6, rfl⟩ := hp
        simp (disch := first | omega | exact getEq rfl | exact getO0 | exact Nat.le_of_ble_eq_true rfl) [-evDraw_c, c26_o5, c26_o6, came_some, goI, List.getElem?_cons_zero, List.getElem?_cons_succ, kn, keep, app_growP, app_noneP, plus_N, plus_at0, put_plus0, upd_N, upd_size, putAt, AV.cells, fillA, loadA, takeA, mk, Eff.isAll, Eff.isNone, Eff.commutes, Eff.spares, okPair, apart, eqAgg, fits, LK.fits, allEq, aveq, eqk, mmA, beqT, wrapI, idxI, tdivI, tmodI, decT, decF, ibT, ibF, inT, inF, evScope_c, if_pos, if_neg, g0, g1, g2, g3, g4, g5, g6, evDraw_0, gx, go, x1, x2, y1, y2, x1', x2', y1', y2', c]
      exact t
  generalize (if yi * xl < yl * xi then i else lo : Nat) = lo1 at *
  have tc : Tr tbl J (.seq c26_o7 (.cond (.s [false, true, false, true, true]) c26_o8 .skip)) (fun s h => s.get [false] = .slice bx 0 n vx ∧ s.get [true, false] = .ptr p4 0 2 ∧ s.get [false, true] = .ptr p5 0 2 ∧ s.get [true, true] = .slice bo 0 n vo ∧ s.get [false, false, false] = G lo1 ∧ s.get [true, false, false] = G hi ∧ s.get [false, true, false] = G i ∧ h = H) .normal (fun s h => s.get [false] = .slice bx 0 n vx ∧ s.get [true, false] = .ptr p4 0 2 ∧ s.get [false, true] = .ptr p5 0 2 ∧ s.get [true, true] = .slice bo 0 n vo ∧ s.get [false, false, false] = G lo1 ∧ s.get [true, false, false] = G ((if yh * xi < yi * xh then i else hi : Nat) : Int) ∧ s.get [false, true, false] = G i ∧ h = H) := by
    by_cases c : yh * xi < yi * xh
    · rw [if_pos c]
      have t : Tr tbl J ((.seq c26_o7 (.cond (.s [false, true, false, true, true]) c26_o8 .skip))) (fun s h => s.get [false] = .slice bx 0 n vx ∧ s.get [true, false] = .ptr p4 0 2 ∧ s.get [false, true] = .ptr p5 0 2 ∧ s.get [true, true] = .slice bo 0 n vo ∧ s.get [false, false, false] = G lo1 ∧ s.get [true, false, false] = G hi ∧ s.get [false, true, false] = G i ∧ h = H) .normal (fun s h => s.get [false] = .slice bx 0 n vx ∧ s.get [true, false] = .ptr p4 0 2 ∧ s.get [false, true] = .ptr p5 0 2 ∧ s.get [true, true] = .slice bo 0 n vo ∧ s.get [false, false, false] = G lo1 ∧ s.get [true, false, false] = G i ∧ s.get [false, true, false] = G i ∧ h = H) := Tr.region fun s h hp => by
        obtain ⟨g0, g1, g2, g3, g4, g5, g6, rfl⟩ := hp
        simp (disch := first | omega | exact getEq rfl | exact getO0 | exact Nat.le_of_ble_eq_true rfl) [-evDraw_c, c26_o7, c26_o8, came_some, goI, List.getElem?_cons_zero, List.getElem?_cons_succ, kn, keep, app_growP, app_noneP, plus_N, plus_at0, put_plus0, upd_N, upd_size, putAt, AV.cells, fillA, loadA, takeA, mk, Eff.isAll, Eff.isNone, Eff.commutes, Eff.spares, okPair, apart, eqAgg, fits, LK.fits, allEq, aveq, eqk, mmA, beqT, wrapI, idxI, tdivI, tmodI, decT, decF, ibT, ibF, inT, inF, evScope_c, if_pos, if_neg, g0, g1, g2, g3, g4, g5, g6, evDraw_0, gx, go, x1, x3, y1, y3, x1', x3', y1', y3', c]
      exact t
    · rw [if_neg c]
      have t : Tr tbl J ((.seq c26_o7 (.cond (.s [false, true, false, true, true]) c26_o8 .skip))) (fun s h => s.get [false] = .slice bx 0 n vx ∧ s.get [true, false] = .ptr p4 0 2 ∧ s.get [false, true] = .ptr p5 0 2 ∧ s.get [true, true] = .slice bo 0 n vo ∧ s.get [false, false, false] = G lo1 ∧ s.get [true, false, false] = G hi ∧ s.get [false, true, false] = G i ∧ h = H) .normal (fun s h => s.get [false] = .slice bx 0 n vx ∧ s.get [true, false] = .ptr p4 0 2 ∧ s.get [false, true] = .ptr p5 0 2 ∧ s.get [true, true] = .slice bo 0 n vo ∧ s.get [false, false, false] = G lo1 ∧ s.get [true, false, false] = G hi ∧ s.get [false, true, false] = G i ∧ h = H) := Tr.region fun s h hp => by
        obtain ⟨g0, g1, g2, g3, g4, g5, g6, rfl⟩ := hp
        simp (disch := first | omega | exact getEq rfl | exact getO0 | exact Nat.le_of_ble_eq_true rfl) [-evDraw_c, c26_o7, c26_o8, came_some, goI, List.getElem?_cons_zero, List.getElem?_cons_succ, kn, keep, app_growP, app_noneP, plus_N, plus_at0, put_plus0, upd_N, upd_size, putAt, AV.cells, fillA, loadA, takeA, mk, Eff.isAll, Eff.isNone, Eff.commutes, Eff.spares, okPair, apart, eqAgg, fits, LK.fits, allEq, aveq, eqk, mmA, beqT, wrapI, idxI, tdivI, tmodI, decT, decF, ibT, ibF, inT, inF, evScope_c, if_pos, if_neg, g0, g1, g2, g3, g4, g5, g6, evDraw_0, gx, go, x1, x3, y1, y3, x1', x3', y1', y3', c]
      exact t
  generalize (if yh * xi < yi * xh then i else hi : Nat) = hi1 at *
  have td : Tr tbl J (c26_o9) (fun s h => s.get [false] = .slice bx 0 n vx ∧ s.get [true, false] = .ptr p4 0 2 ∧ s.get [false, true] = .ptr p5 0 2 ∧ s.get [true, true] = .slice bo 0 n vo ∧ s.get [false, false, false] = G lo1 ∧ s.get [true, false, false] = G hi1 ∧ s.get [false, true, false] = G i ∧ h = H) .normal (fun s h => s.get [false] = .slice bx 0 n vx ∧ s.get [true, false] = .ptr p4 0 2 ∧ s.get [false, true] = .ptr p5 0 2 ∧ s.get [true, true] = .slice bo 0 n vo ∧ s.get [false, false, false] = G lo1 ∧ s.get [true, false, false] = G hi1 ∧ s.get [false, true, false] = G ((i + 1 : Nat) : Int) ∧ h = H) := Tr.region fun s h hp => by
    obtain ⟨g0, g1, g2, g3, g4, g5, g6, rfl⟩ := hp
    simp (disch := first | omega | exact getEq rfl | exact getO0 | exact Nat.le_of_ble_eq_true rfl) [c26_o9, came_some, goI, List.getElem?_cons_zero, List.getElem?_cons_succ, kn, keep, app_growP, app_noneP, plus_N, plus_at0, put_plus0, upd_N, upd_size, putAt, AV.cells, fillA, loadA, takeA, mk, Eff.isAll, Eff.isNone, Eff.commutes, Eff.spares, okPair, apart, eqAgg, fits, LK.fits, allEq, aveq, eqk, mmA, beqT, wrapI, idxI, tdivI, tmodI, decT, decF, ibT, ibF, inT, inF, evScope_c, if_pos, if_neg, g0, g1, g2, g3, g4, g5, g6]
  exact Tr.trim_seq tt (Tr.seq (Tr.block_out (Tr.seq tb tc) (by simp)) td)
end
theorem n26_10 (J : CallF) (H : Heap) (k61 : K61 J) {bx vx bo vo p n lo hi : Nat} {cx co : List AV} {yl xl yh xh : Int} (hN : H.N ≤ p) (f4 : H.get p = .cells 0 2 [G 0, G 0]) (f5 : H.get (p + 1) = .cells 0 2 [G 0, G 0]) (gx : H.get bx = .cells 1 vx cx) (go : H.get bo = .cells 1 vo co) (x1 : cx[lo]? = some (G xl)) (y1 : co[lo]? = some (G yl)) (x2 : cx[hi]? = some (G xh)) (y2 : co[hi]? = some (G yh))
    (hlo : lo < n) (hhi : hi < n) (b1 : 0 ≤ yl ∧ yl ≤ 7200000000) (b2 : 0 ≤ yh ∧ yh ≤ 7200000000) (b3 : 1 ≤ xl ∧ xl ≤ 100000000) (b4 : 1 ≤ xh ∧ xh ≤ 100000000) :
    Tr tbl J (.seq c26_o10 .ret) (fun s h => s.get [false] = .slice bx 0 n vx ∧ s.get [true, false] = .ptr p 0 2 ∧ s.get [false, true] = .ptr (p + 1) 0 2 ∧ s.get [true, true] = .slice bo 0 n vo ∧ s.get [false, false, false] = G lo ∧ s.get [true, false, false] = G hi ∧ h = H) .ret (fun s h => s.get [true, false] = .ptr p 0 2 ∧ s.get [false, true] = .ptr (p + 1) 0 2 ∧ h.get p = .cells 0 2 [G (frU yl xl), G (frV yl xl)] ∧ h.get (p + 1) = .cells 0 2 [G (frU yh xh), G (frV yh xh)]) := by
  have ka := fun h => k61 yl xl h b1.1 (by omega) (by omega) (by omega)
  have kb := fun h => k61 yh xh h b2.1 (by omega) (by omega) (by omega)
  rw [fr_uv] at ka kb
  generalize frU yl xl = u1 at *
  generalize frV yl xl = v1 at *
  generalize frU yh xh = u2 at *
  generalize frV yh xh = v2 at *
  have x1' : ∀ h : lo < cx.length, cx[lo] = G xl := fun h => by rw [List.getElem?_eq_getElem h] at x1; exact Option.some.inj x1
  have x2' : ∀ h : hi < cx.length, cx[hi] = G xh := fun h => by rw [List.getElem?_eq_getElem h] at x2; exact Option.some.inj x2
  have y1' : ∀ h : lo < co.length, co[lo] = G yl := fun h => by rw [List.getElem?_eq_getElem h] at y1; exact Option.some.inj y1
  have y2' : ∀ h : hi < co.length, co[hi] = G yh := fun h => by rw [List.getElem?_eq_getElem h] at y2; exact Option.some.inj y2
  have p4 := put_gen H p 2 0 0 [G 0, G 0] [G u1, G v1] hN f4 (by simp)
  have m5 : (H.upd p (.cells 0 2 [G u1, G v1])).get (p + 1) = .cells 0 2 [G 0, G 0] := by rw [upd_ne _ _ _ _ hN (by omega)]; exact f5
  have p5 := put_gen (H.upd p (.cells 0 2 [G u1, G v1])) (p + 1) 2 0 0 [G 0, G 0] [G u2, G v2] (by rw [upd_N]; omega) m5 (by simp)
  have e4 : ((H.upd p (.cells 0 2 [G u1, G v1])).upd (p + 1) (.cells 0 2 [G u2, G v2])).get p = .cells 0 2 [G u1, G v1] := by
    rw [upd_ne _ _ _ _ (by rw [upd_N]; omega) (by omega)]; exact upd_same _ _ _ hN (get_lt f4 (by simp))
  have e5 : ((H.upd p (.cells 0 2 [G u1, G v1])).upd (p + 1) (.cells 0 2 [G u2, G v2])).get (p + 1) = .cells 0 2 [G u2, G v2] := upd_same _ _ _ (by rw [upd_N]; omega) (by rw [upd_size]; exact get_lt f5 (by simp))
  have t : Tr tbl J ((.seq c26_o10 .ret)) (fun s h => s.get [false] = .slice bx 0 n vx ∧ s.get [true, false] = .ptr p 0 2 ∧ s.get [false, true] = .ptr (p + 1) 0 2 ∧ s.get [true, true] = .slice bo 0 n vo ∧ s.get [false, false, false] = G lo ∧ s.get [true, false, false] = G hi ∧ h = H) .ret (fun s h => s.get [true, false] = .ptr p 0 2 ∧ s.get [false, true] = .ptr (p + 1) 0 2 ∧ h = (H.upd p (.cells 0 2 [G u1, G v1])).upd (p + 1) (.cells 0 2 [G u2, G v2])) := Tr.region fun s h hp => by
    obtain ⟨g0, g1, g2, g3, g4, g5, rfl⟩ := hp
    simp (disch := first | omega | exact getEq rfl | exact getO0 | exact Nat.le_of_ble_eq_true rfl) [-evDraw_c, c26_o10, came_some, goI, List.getElem?_cons_zero, List.getElem?_cons_succ, kn, keep, app_growP, app_noneP, plus_N, plus_at0, put_plus0, upd_N, upd_size, putAt, AV.cells, fillA, loadA, takeA, mk, Eff.isAll, Eff.isNone, Eff.commutes, Eff.spares, okPair, apart, eqAgg, fits, LK.fits, allEq, aveq, eqk, mmA, beqT, wrapI, idxI, tdivI, tmodI, decT, decF, ibT, ibF, inT, inF, evScope_c, if_pos, if_neg, g0, g1, g2, g3, g4, g5, evDraw_0, gx, go, x1, x2, y1, y2, x1', x2', y1', y2', ka, kb, p4, p5, nnT]
  exact Tr.post (fun s h q => ⟨q.1, q.2.1, by rw [q.2.2]; exact e4, by rw [q.2.2]; exact e5⟩) t

section
variable {M : List (List Int)} {X : List Int} {x y : AV}
theorem vOk_10 (h : vOk 1 M X) : vOk 0 M X := ⟨h.1, h.2.1, by
  have := h.2.2
  unfold allIn at this ⊢
  rw [List.all_eq_true] at this ⊢
  intro a ha
  have := this a ha
  simp only [decide_eq_true_eq] at this ⊢
  omega⟩
theorem vOk_yx (h : vOk 1 M X) : YX (fun i => nxv M X i M.length) (X.getD · 0) M.length := ⟨fun i hi => by
    have a := nxv_bd h.1 (vOk_10 h).2.2 i M.length (by have := h.2.1; omega)
    have b := isMat_n h.1
    exact ⟨a.1, by show nxv M X i M.length ≤ _; have c := a.2; generalize nxv M X i M.length = z at *; generalize M.length = m at *; omega⟩, fun i hi => allIn_at h.2.2 (by have := h.2.1; omega)⟩
/-- The two fractions. -/
def bdV (M : List (List Int)) (X : List Int) : AV × AV := (let Y := fun i => nxv M X i M.length; let Z := fun i => X.getD i 0; let l := loI Y Z M.length; let h := hiI Y Z M.length; (fr (Y l) (Z l), fr (Y h) (Z h)))
theorem c26_ok (J : CallF) (k25 : K25 J) (k61 : K61 J) (hJ : ∀ a h, J 26 a h = none) (h : Heap) (hy : MR h y M) (hx : LR h x X) (hv : vOk 1 M X) : CallsTo tbl J 26 [y, x] h (.tup [(bdV M X).1, (bdV M X).2], [], false) := by
  have h8 := isMat_n hv.1
  have hl := hv.2.1
  have yx := vOk_yx hv
  have lon := loI_lt (fun i => nxv M X i M.length) (X.getD · 0) M.length (by omega)
  have hin := hiI_lt (fun i => nxv M X i M.length) (X.getD · 0) M.length (by omega)
  refine Tr.fnv (cf := c26) (e := .ret) (s := T.set (T.set .leaf [] y) [false] x) (by decide) rfl (hJ _ _) rfl rfl (by simp [bdV, fr, AV.flat, AV.flats]) (by simp) ?_
  have t0 : Tr tbl J (c26_o0) (fun s h' => s = T.set (T.set .leaf [] y) [false] x ∧ h' = frameOf h) .normal (fun s h' => s.get [] = y ∧ s.get [false] = x ∧ s.get [true, false] = .ptr h.size 0 2 ∧ s.get [false, true] = .ptr (h.size + 1) 0 2 ∧ h' = ⟨h.get, h.size, [.cells 0 2 [G 0, G 0], .cells 0 2 [G 0, G 0]]⟩) := Tr.region fun s h hp => by
    obtain ⟨rfl, rfl⟩ := hp
    simp (disch := first | omega | exact getEq rfl | exact getO0 | exact Nat.le_of_ble_eq_true rfl) [c26_o0, frameOf, came_some, goI, List.getElem?_cons_zero, List.getElem?_cons_succ, kn, keep, frameOf, size_mk, get_mk_lt, get_mk_ge, Eff.app, Heap.setOwn, putAt, AV.cells, fillA, loadA, takeA, mk, Eff.isAll, Eff.isNone, Eff.commutes, Eff.spares, okPair, apart, eqAgg, fits, LK.fits, allEq, aveq, eqk, mmA, beqT, wrapI, idxI, tdivI, tmodI, decT, decF, ibT, ibF, inT, inF, evScope_c, if_pos, if_neg]
  obtain ⟨H1, s1⟩ : ∃ H, (⟨h.get, h.size, [.cells 0 2 [G 0, G 0], .cells 0 2 [G 0, G 0]]⟩ : Heap) = H := ⟨_, rfl⟩
  have hy1 : MR H1 y M := by rw [← s1]; exact hy.lo _
  have hx1 : LR H1 x X := by rw [← s1]; exact LR.lo hx _
  have f4 : H1.get h.size = .cells 0 2 [G 0, G 0] := by rw [← s1, get_mk_ge _ _ _ _ (by omega), Nat.sub_self]; rfl
  have f5 : H1.get (h.size + 1) = .cells 0 2 [G 0, G 0] := by rw [← s1, get_mk_ge _ _ _ _ (by omega), Nat.add_sub_cancel_left]; rfl
  have n1 : H1.N = h.size := by rw [← s1]
  rw [s1] at t0
  clear s1
  obtain ⟨w, own, k, ng⟩ := k25 H1 y x M X hy1 hx1 (vOk_10 hv)
  obtain ⟨bo, rfl, go⟩ := ng.l.sl (by
    intro e
    have h0 : (gs (nxtL M X)).length = M.length := gl_len _ _
    rw [e] at h0
    have h1 : (0 : Nat) = M.length := h0
    omega)
  have ho : (gs (nxtL M X)).length = M.length := gl_len _ _
  rw [ho] at k go
  have hx2 := LR.kp ng.k hx1
  have f4 := plus_keep own f4 (by simp)
  have f5 := plus_keep own f5 (by simp)
  have hne : own ≠ [] := fun e => by
    have := ng.x0 bo rfl
    have := get_lt go (by simp)
    rw [e, plus_size] at this
    simp at this
    omega
  rcases hx2.cases with ⟨_, q⟩ | ⟨_, q⟩ | ⟨bx, vx, rfl, gx⟩
  · rw [q] at hl; simp at hl; omega
  · rw [q] at hl; simp at hl; omega
  rw [hl] at hx hx1 hx2 k t0 ⊢
  have ex : ∀ i, i < M.length → (gs X)[i]? = some (G (X.getD i 0)) := fun i hi => by rw [lf_of X, gl_at _ (by omega), lf_getD _ (by omega)]
  have eo : ∀ i, i < M.length → (gs (nxtL M X))[i]? = some (G (nxv M X i M.length)) := fun i hi => gl_at (fun i => nxv M X i M.length) hi
  have n2 : (H1.plus own).N = h.size := n1
  have t1 : Tr tbl J (c26_o1) (fun s h' => s.get [] = y ∧ s.get [false] = .slice bx 0 M.length vx ∧ s.get [true, false] = .ptr h.size 0 2 ∧ s.get [false, true] = .ptr (h.size + 1) 0 2 ∧ h' = H1) .normal (fun s h' => s.get [false] = .slice bx 0 M.length vx ∧ s.get [true, false] = .ptr h.size 0 2 ∧ s.get [false, true] = .ptr (h.size + 1) 0 2 ∧ s.get [true, true] = .slice bo 0 M.length M.length ∧ h' = H1.plus own) := Tr.region fun s h hp => by
    obtain ⟨g0, g1, g2, g3, rfl⟩ := hp
    simp (disch := first | omega | exact getEq rfl | exact getO0 | exact Nat.le_of_ble_eq_true rfl) [c26_o1, came_some, goI, List.getElem?_cons_zero, List.getElem?_cons_succ, kn, keep, app_growP, app_noneP, plus_N, plus_at0, put_plus0, upd_N, upd_size, putAt, AV.cells, fillA, loadA, takeA, mk, Eff.isAll, Eff.isNone, Eff.commutes, Eff.spares, okPair, apart, eqAgg, fits, LK.fits, allEq, aveq, eqk, mmA, beqT, wrapI, idxI, tdivI, tmodI, decT, decF, ibT, ibF, inT, inF, evScope_c, if_pos, if_neg, g0, g1, g2, g3, k, hne]
  generalize H1.plus own = H2 at *
  clear k
  have t2 : Tr tbl J ((.seq c26_o2 c26_o3)) (fun s h' => s.get [false] = .slice bx 0 M.length vx ∧ s.get [true, false] = .ptr h.size 0 2 ∧ s.get [false, true] = .ptr (h.size + 1) 0 2 ∧ s.get [true, true] = .slice bo 0 M.length M.length ∧ h' = H2) .normal (fun s h' => s.get [false] = .slice bx 0 M.length vx ∧ s.get [true, false] = .ptr h.size 0 2 ∧ s.get [false, true] = .ptr (h.size + 1) 0 2 ∧ s.get [true, true] = .slice bo 0 M.length M.length ∧ s.get [false, false, false] = G ((loI (fun i => nxv M X i M.length) (X.getD · 0) 0 : Nat) : Int) ∧ s.get [true, false, false] = G ((hiI (fun i => nxv M X i M.length) (X.getD · 0) 0 : Nat) : Int) ∧ s.get [false, true, false] = G ((0 : Nat) : Int) ∧ h' = H2) := Tr.region fun s h hp => by
    obtain ⟨g0, g1, g2, g3, rfl⟩ := hp
    simp (disch := first | omega | exact getEq rfl | exact getO0 | exact Nat.le_of_ble_eq_true rfl) [c26_o2, c26_o3, came_some, goI, List.getElem?_cons_zero, List.getElem?_cons_succ, kn, keep, app_growP, app_noneP, plus_N, plus_at0, put_plus0, upd_N, upd_size, putAt, AV.cells, fillA, loadA, takeA, mk, Eff.isAll, Eff.isNone, Eff.commutes, Eff.spares, okPair, apart, eqAgg, fits, LK.fits, allEq, aveq, eqk, mmA, beqT, wrapI, idxI, tdivI, tmodI, decT, decF, ibT, ibF, inT, inF, evScope_c, if_pos, if_neg, g0, g1, g2, g3, loI, hiI]
  obtain ⟨_, t21, t22⟩ := t2.split
  have tl := Tr.rounds (tbl := tbl) (I := J) (live := L26) (c := c26_b0) (e := .exit 0) (M := M.length) (P := fun i => (fun s h' => s.get [false] = .slice bx 0 M.length vx ∧ s.get [true, false] = .ptr h.size 0 2 ∧ s.get [false, true] = .ptr (h.size + 1) 0 2 ∧ s.get [true, true] = .slice bo 0 M.length M.length ∧ s.get [false, false, false] = G ((loI (fun i => nxv M X i M.length) (X.getD · 0) i : Nat) : Int) ∧ s.get [true, false, false] = G ((hiI (fun i => nxv M X i M.length) (X.getD · 0) i : Nat) : Int) ∧ s.get [false, true, false] = G i ∧ h' = H2))
    (Q := (fun s h' => s.get [false] = .slice bx 0 M.length vx ∧ s.get [true, false] = .ptr h.size 0 2 ∧ s.get [false, true] = .ptr (h.size + 1) 0 2 ∧ s.get [true, true] = .slice bo 0 M.length M.length ∧ s.get [false, false, false] = G ((loI (fun i => nxv M X i M.length) (X.getD · 0) M.length : Nat) : Int) ∧ s.get [true, false, false] = G ((hiI (fun i => nxv M X i M.length) (X.getD · 0) M.length : Nat) : Int) ∧ h' = H2))
    (fun i hi => by
      have l1 : loI (fun i => nxv M X i M.length) (X.getD · 0) i < M.length := by
        rcases Nat.eq_zero_or_pos i with e | e
        · subst e; exact hi
        · have := loI_lt (fun i => nxv M X i M.length) (X.getD · 0) i e; omega
      have l2 : hiI (fun i => nxv M X i M.length) (X.getD · 0) i < M.length := by
        rcases Nat.eq_zero_or_pos i with e | e
        · subst e; exact hi
        · have := hiI_lt (fun i => nxv M X i M.length) (X.getD · 0) i e; omega
      exact n26_step J H2 (X := (X.getD · 0)) (Y := fun i => nxv M X i M.length) gx go ex eo yx hi l1 l2 (by omega))
    (by
      generalize loI (fun i => nxv M X i M.length) (X.getD · 0) M.length = lo at *
      generalize hiI (fun i => nxv M X i M.length) (X.getD · 0) M.length = hi at *
      generalize M.length = n at *
      have t : Tr tbl J ((.trim L26 c26_b0)) (fun s h' => s.get [false] = .slice bx 0 n vx ∧ s.get [true, false] = .ptr h.size 0 2 ∧ s.get [false, true] = .ptr (h.size + 1) 0 2 ∧ s.get [true, true] = .slice bo 0 n n ∧ s.get [false, false, false] = G lo ∧ s.get [true, false, false] = G hi ∧ s.get [false, true, false] = G n ∧ h' = H2) (.exit 0) (fun s h' => s.get [false] = .slice bx 0 n vx ∧ s.get [true, false] = .ptr h.size 0 2 ∧ s.get [false, true] = .ptr (h.size + 1) 0 2 ∧ s.get [true, true] = .slice bo 0 n n ∧ s.get [false, false, false] = G lo ∧ s.get [true, false, false] = G hi ∧ h' = H2) := Tr.region fun s h hp => by
        obtain ⟨g0, g1, g2, g3, g4, g5, g6, rfl⟩ := hp
        simp (disch := first | omega | exact getEq rfl | exact getO0 | exact Nat.le_of_ble_eq_true rfl) [c26_b0, c26_o4, came_some, goI, List.getElem?_cons_zero, List.getElem?_cons_succ, kn, keep, app_growP, app_noneP, plus_N, plus_at0, put_plus0, upd_N, upd_size, putAt, AV.cells, fillA, loadA, takeA, mk, Eff.isAll, Eff.isNone, Eff.commutes, Eff.spares, okPair, apart, eqAgg, fits, LK.fits, allEq, aveq, eqk, mmA, beqT, wrapI, idxI, tdivI, tmodI, decT, decF, ibT, ibF, inT, inF, evScope_c, if_pos, if_neg, g0, g1, g2, g3, g4, g5, g6]
      exact t) (by simp) 0 (by omega)
  unfold bdV
  have yl := yx.y _ lon
  have xl := yx.x _ lon
  have yh := yx.y _ hin
  have xh := yx.x _ hin
  have exl := ex _ lon
  have eol := eo _ lon
  have exh := ex _ hin
  have eoh := eo _ hin
  simp only at yl xl yh xh exl eol exh eoh ⊢
  have t9 := n26_10 J H2 k61 (by omega) f4 f5 gx go exl eol exh eoh lon hin yl yh xl xh
  refine Tr.post ?_ (Tr.seq t0 (Tr.seq t1 (Tr.seq t21 (Tr.seq (Tr.seq t22 (Tr.block tl)) t9))))
  intro s h' q
  obtain ⟨q1, q2, q3, q4⟩ := q
  rw [fr_uv, fr_uv]
  simp [c26, evRess, evRes, q1, q2, q3, q4, loadA, takeA, one]
end
end Go.Proofs.Ytjeemgaoonapgaa.Ev
