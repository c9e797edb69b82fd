/-
  What several claims lean on: bounds, lists of cells, what bits.Mul and slices.Repeat answer. No condition.
-/
import Derived.Test.YtlkgpcfhpeilhaaSFacts
import Derived.Test.YtlkgpcfhpeilhaaEvYld
set_option linter.unusedVariables false
set_option linter.unusedSimpArgs false
namespace Go.Proofs.Ytlkgpcfhpeilhaa.Ev
open Go Go.AEv

attribute [local simp] evFunc initS evOps_c evTrim_c evSkip_c evExit_c evRet_c evSeq_c evCond_c evBlock_c evDraw_c runOps_n runOps_c exec_n exec_g pure1_c act AOpd.ev T.get T.set T.put evBin evUn forceT_eq forceV_eq forceL_eq evRess evRes one keep runFP_n runFP_c app_none AV.flats AV.flat

theorem acc_bd {lot bad : Int} {n : Nat} (h1 : (n : Int) ≤ lot) (h2 : lot ≤ 36) (k : Nat) (hk : k ≤ 36) : acc lot bad n (k + 1) ≤ 2542620639232 := by
  have := acc_le lot bad n (by omega) h1 h2 (k + 1)
  have := Nat.mul_le_mul_right 68719476736 (show k + 1 ≤ 37 by omega)
  omega
theorem mul_bd {x y : Int} {X Y : Int} (h1 : 0 ≤ x) (h2 : x ≤ X) (h3 : 0 ≤ y) (h4 : y ≤ Y) : 0 ≤ x * y ∧ x * y ≤ X * Y :=
  ⟨Int.mul_nonneg h1 h3, Int.mul_le_mul h2 h4 h3 (by omega)⟩


theorem acc_le_all {lot bad n : Int} (h0 : 0 ≤ n) (h1 : n ≤ lot) (h2 : 0 ≤ bad) (h3 : bad ≤ lot) (m : Nat) : acc lot bad n m ≤ ofZ lot bad := by
  rw [← acc_all h0 h1 h2 h3]
  by_cases hm : m ≤ bad.toNat + 1
  · obtain ⟨j, hj⟩ : ∃ j, m + j = bad.toNat + 1 := ⟨bad.toNat + 1 - m, by omega⟩
    rw [acc_sm, acc_sm, ← hj]; exact sm_le _ _ _
  · obtain ⟨j, hj⟩ : ∃ j, m = bad.toNat + 1 + j := ⟨m - (bad.toNat + 1), by omega⟩
    rw [hj, acc_over h2]; exact Nat.le_refl _

theorem fr_two {x y : Int} (h1 : 0 ≤ x) (h3 : 0 < y) : ∃ g u v : Int, 0 < g ∧ x = g * u ∧ y = g * v ∧ fr x y = .agg [G u, G v] ∧ (0 ≤ u ∧ u ≤ x) ∧ (1 ≤ v ∧ v ≤ y) ∧ Nat.gcd u.toNat v.toNat = 1 := by
  obtain ⟨X, rfl⟩ : ∃ X : Nat, x = X := ⟨x.toNat, by omega⟩
  obtain ⟨Y, rfl⟩ : ∃ Y : Nat, y = Y := ⟨y.toNat, by omega⟩
  obtain ⟨g, u, v, hg, e1, e2, e3, e4, e5⟩ := fr_parts (a := X) (b := Y) (by omega)
  have hv : 0 < v := by
    rcases Nat.eq_zero_or_pos v with h | h
    · subst h; rw [Nat.mul_zero] at e2; omega
    · exact h
  have l1 : u ≤ X := by rw [e1]; exact Nat.le_mul_of_pos_left _ hg
  have l2 : v ≤ Y := by rw [e2]; exact Nat.le_mul_of_pos_left _ hg
  refine ⟨g, u, v, by omega, by rw [e1]; simp, by rw [e2]; simp, by unfold fr; simp only [Int.toNat_natCast]; rw [e3, e4], ⟨by omega, by omega⟩, ⟨by omega, by omega⟩, ?_⟩
  simp only [Int.toNat_natCast]
  rw [e1, e2, Nat.gcd_mul_left] at e5
  exact Nat.eq_of_mul_eq_mul_left hg (by rw [← e5, Nat.mul_one])


def frU (x y : Int) : Int := x / (Nat.gcd x.toNat y.toNat : Int)
def frV (x y : Int) : Int := y / (Nat.gcd x.toNat y.toNat : Int)


def zl (A : Nat → Int) : Nat → List Int
  | 0 => []
  | m + 1 => zl A m ++ [A m]
abbrev gs (l : List Int) : List AV := l.map fun n => AV.int .i64 n
theorem zl_len (A : Nat → Int) : ∀ m, (zl A m).length = m
  | 0 => rfl
  | m + 1 => by simp [zl, zl_len A m]
def bts (A : Nat → Int) : Nat → List AObj
  | 0 => []
  | j + 1 => bts A j ++ [.cells 1 1 [G (A (j + 1))]]
theorem bts_len (A : Nat → Int) : ∀ m, (bts A m).length = m
  | 0 => rfl
  | m + 1 => by simp [bts, bts_len A m]
def zs (A : Nat → Int) (m : Nat) : List AV := gs (zl A m)
theorem zs_len (A : Nat → Int) (m : Nat) : (zs A m).length = m := by simp [zs, zl_len]
theorem zs_succ (A : Nat → Int) (m : Nat) : zs A m ++ [G (A m)] = zs A (m + 1) := by simp [zs, zl]


def chk69 (n : Nat) : Bool := match (evW tbl noIntr 12).call 69 [.int .u64 1, .int .u64 n] e0 with
  | some (.tup [.int .u64 0, .int .u64 m], [], false) => m == n
  | _ => false
theorem chk69_all : (List.range 64).all chk69 = true := by decide +kernel
theorem c69_ok (n : Nat) (h : n < 64) : CallsTo tbl noIntr 69 [.int .u64 1, .int .u64 n] e0 (.tup [.int .u64 0, .int .u64 n], [], false) := by
  have := List.all_eq_true.1 chk69_all n (List.mem_range.2 h)
  unfold chk69 at this
  split at this
  · rename_i m e
    simp only [beq_iff_eq] at this
    subst this
    exact ⟨12, e⟩
  · cases this
def spec69 : SpecV
  | [.int .u64 a, .int .u64 n] => if a = 1 ∧ 0 ≤ n ∧ n < 64 then some (.tup [.int .u64 0, .int .u64 n]) else none
  | _ => none

/-! ### slices.Repeat -/
def RB (n m : Nat) (x : Int) : List AV := List.replicate m (G x) ++ List.replicate (n - m) (G 0)
theorem RB_len {n m : Nat} {x : Int} (h : m ≤ n) : (RB n m x).length = n := by simp [RB]; omega
theorem RB_take (n m : Nat) (x : Int) : (RB n m x).take m = List.replicate m (G x) := by simp [RB]
theorem RB_all (n : Nat) (x : Int) : RB n n x = List.replicate n (G x) := by simp [RB]
theorem rep_put : ∀ (k a : Nat) (y : AV) (cs : List AV), k ≤ cs.length → putAt (List.replicate a y ++ cs) a (List.replicate k y) = List.replicate (a + k) y ++ cs.drop k := by
  intro k
  induction k with
  | zero => intro a y cs _; simp [putAt]
  | succ k ih =>
    intro a y cs hk
    cases cs with
    | nil => simp at hk
    | cons c cs =>
      rw [List.replicate_succ, putAt, List.set_append_right _ _ (by simp), List.length_replicate, Nat.sub_self, List.set_cons_zero]
      rw [show List.replicate a y ++ y :: cs = List.replicate (a + 1) y ++ cs by rw [List.replicate_succ', List.append_assoc]; rfl]
      rw [ih _ _ _ (by simpa using hk), show a + 1 + k = a + (k + 1) by omega]; rfl
theorem RB_put {n m k : Nat} {x : Int} (h : m + k ≤ n) : putAt (RB n m x) m (List.replicate k (G x)) = RB n (m + k) x := by
  unfold RB
  rw [rep_put _ _ _ _ (by simp; omega), List.drop_replicate, Nat.sub_sub]

section
variable {n : Nat} {x : Int}
abbrev P61 (h : Heap) (n : Nat) (x : Int) (m : Nat) : SP := (fun s h' => s.get [false, false, false] = .slice h.size 0 n n ∧ s.get [true, false, false] = G m ∧ h' = ⟨h.get, h.size, [.cells 1 n (RB n m x)]⟩)

theorem rep_loop (J : CallF) (h : Heap) (hn : n ≤ 60) : ∀ (j m : Nat), n - m ≤ j → 1 ≤ m → m ≤ n → Tr tbl J c61_l0 (P61 h n x m) (.exit 0) (P61 h n x n) := by
  intro j
  induction j with
  | zero =>
    intro m hj h1 h2
    obtain rfl : m = n := by omega
    have t : Tr tbl J ((.trim [[false, false, false], [true, false, false]] c61_b0)) (fun s h' => s.get [false, false, false] = .slice h.size 0 m m ∧ s.get [true, false, false] = G m ∧ h' = ⟨h.get, h.size, [.cells 1 m (RB m m x)]⟩) (.exit 0) (fun s h' => s.get [false, false, false] = .slice h.size 0 m m ∧ s.get [true, false, false] = G m ∧ h' = ⟨h.get, h.size, [.cells 1 m (RB m m x)]⟩) := Tr.region fun s h hp => by
      obtain ⟨g0, g1, rfl⟩ := hp
      simp (disch := first | omega | exact getEq rfl | exact getO0 | exact Nat.le_of_ble_eq_true rfl) [c61_b0, c61_o8, came_some, goI, List.getElem?_cons_zero, List.getElem?_cons_succ, kn, keep, frameOf, Heap.size, Heap.get, Eff.app, Heap.setOwn, putAt, AV.cells, fillA, loadA, takeA, mk, Eff.isAll, Eff.isNone, Eff.commutes, Eff.spares, okPair, apart, eqAgg, fits, LK.fits, allEq, aveq, eqk, mmA, beqT, wrapI, idxI, tdivI, tmodI, decT, decF, ibT, ibF, inT, inF, evScope_c, if_pos, if_neg, g0, g1]
    exact Tr.out t (by simp)
  | succ j ih =>
    intro m hj h1 h2
    by_cases hm : m = n
    · exact ih m (by omega) h1 h2
    · obtain ⟨k, hk⟩ : ∃ k, k = min m (n - m) := ⟨_, rfl⟩
      have hkm : m + k ≤ n := by omega
      have e1 := RB_len (n := n) (m := m) (x := x) h2
      have e2 := RB_take n m x
      have e3 := RB_put (n := n) (m := m) (k := k) (x := x) hkm
      have e4 : min m (n - m) = k := hk.symm
      have e5 : min k m = k := by omega
      obtain ⟨cs, hcs⟩ : ∃ cs, RB n m x = cs := ⟨_, rfl⟩
      rw [hcs] at e1 e2 e3
      have hm0 : ¬ (m = n ∧ 0 < n) := by omega
      have hm1 : ¬ (0 = n ∧ 0 < n) := by omega
      have t : Tr tbl J ((.trim [[false, false, false], [true, false, false]] c61_b0)) (fun s h' => s.get [false, false, false] = .slice h.size 0 n n ∧ s.get [true, false, false] = G m ∧ h' = ⟨h.get, h.size, [.cells 1 n cs]⟩) .normal (fun s h' => s.get [false, false, false] = .slice h.size 0 n n ∧ s.get [true, false, false] = G ((m + k : Nat) : Int) ∧ h' = ⟨h.get, h.size, [.cells 1 n (RB n (m + k) x)]⟩) := Tr.region fun s h hp => by
        obtain ⟨g0, g1, rfl⟩ := hp
        simp (disch := first | omega | exact getEq rfl | exact getO0 | exact Nat.le_of_ble_eq_true rfl) [c61_b0, c61_o8, c61_o9, came_some, goI, List.getElem?_cons_zero, List.getElem?_cons_succ, kn, keep, frameOf, Heap.size, Heap.get, Eff.app, Heap.setOwn, putAt, AV.cells, fillA, loadA, takeA, mk, Eff.isAll, Eff.isNone, Eff.commutes, Eff.spares, okPair, apart, eqAgg, fits, LK.fits, allEq, aveq, eqk, mmA, beqT, wrapI, idxI, tdivI, tmodI, decT, decF, ibT, ibF, inT, inF, evScope_c, if_pos, if_neg, g0, g1, slSlA, bounds, elems, copyA, rdOf, hm0, hm1, e1, e2, e3, e4, e5, List.take_replicate]
        omega
      rw [← hcs] at t
      exact Tr.next t (ih (m + k) (by omega) (by omega) (by omega))

theorem c61_ok (J : CallF) (k69 : ∀ (h : Heap) (n : Int), 0 ≤ n → n < 64 → J 69 [.int .u64 1, .int .u64 n] h = some (.tup [.int .u64 0, .int .u64 n], [], false)) (hJ : ∀ a h, J 61 a h = none) (h : Heap) (b : Nat) (hb : h.get b = .cells 1 1 [G x]) (h1 : 1 ≤ n) (h2 : n ≤ 60) :
    CallsTo tbl J 61 [.slice b 0 1 1, G n] h (.slice h.size 0 n n, [.cells 1 n (List.replicate n (G x))], false) := by
  have hlt := get_lt hb (by simp)
  have wu : ∀ z : Int, 0 ≤ z → z < 64 → IntKind.u64.wrap z = z := fun z _ _ => by rw [wrap_u64]; omega
  refine Tr.fnh (cf := c61) (e := .ret) (s := T.set (T.set .leaf [] (.slice b 0 1 1)) [false] (G n)) (by decide) rfl (hJ _ _) rfl rfl rfl (by simp) ?_
  have t0 : Tr tbl J (c61_o0) (fun s h' => s = T.set (T.set .leaf [] (.slice b 0 1 1)) [false] (G n) ∧ h' = frameOf h) .normal (fun s h' => s.get [] = .slice b 0 1 1 ∧ s.get [false] = G n ∧ h' = ⟨h.get, h.size, []⟩) := Tr.region fun s h hp => by
    obtain ⟨rfl, rfl⟩ := hp
    simp (disch := first | omega | exact getEq rfl | exact getO0 | exact Nat.le_of_ble_eq_true rfl) [c61_o0, came_some, goI, List.getElem?_cons_zero, List.getElem?_cons_succ, kn, keep, frameOf, Heap.size, Heap.get, Eff.app, Heap.setOwn, putAt, AV.cells, fillA, loadA, takeA, mk, Eff.isAll, Eff.isNone, Eff.commutes, Eff.spares, okPair, apart, eqAgg, fits, LK.fits, allEq, aveq, eqk, mmA, beqT, wrapI, idxI, tdivI, tmodI, decT, decF, ibT, ibF, inT, inF, evScope_c, if_pos, if_neg]
  have t1 : Tr tbl J ((.seq c61_o1 (.cond (.s [true, true, false]) c61_o2 .skip))) (fun s h' => s.get [] = .slice b 0 1 1 ∧ s.get [false] = G n ∧ h' = ⟨h.get, h.size, []⟩) .normal (fun s h' => s.get [] = .slice b 0 1 1 ∧ s.get [false] = G n ∧ h' = ⟨h.get, h.size, []⟩) := Tr.region fun s h hp => by
    obtain ⟨g0, g1, rfl⟩ := hp
    simp (disch := first | omega | exact getEq rfl | exact getO0 | exact Nat.le_of_ble_eq_true rfl) [c61_o1, came_some, goI, List.getElem?_cons_zero, List.getElem?_cons_succ, kn, keep, frameOf, Heap.size, Heap.get, Eff.app, Heap.setOwn, putAt, AV.cells, fillA, loadA, takeA, mk, Eff.isAll, Eff.isNone, Eff.commutes, Eff.spares, okPair, apart, eqAgg, fits, LK.fits, allEq, aveq, eqk, mmA, beqT, wrapI, idxI, tdivI, tmodI, decT, decF, ibT, ibF, inT, inF, evScope_c, if_pos, if_neg, g0, g1]
  have t2 : Tr tbl J (c61_o3) (fun s h' => s.get [] = .slice b 0 1 1 ∧ s.get [false] = G n ∧ h' = ⟨h.get, h.size, []⟩) .normal (fun s h' => s.get [] = .slice b 0 1 1 ∧ s.get [false, true] = .int .u64 0 ∧ s.get [true, true] = .int .u64 n ∧ h' = ⟨h.get, h.size, []⟩) := Tr.region fun s h hp => by
    obtain ⟨g0, g1, rfl⟩ := hp
    simp (disch := first | omega | exact getEq rfl | exact getO0 | exact Nat.le_of_ble_eq_true rfl) [c61_o3, came_some, goI, List.getElem?_cons_zero, List.getElem?_cons_succ, kn, keep, frameOf, Heap.size, Heap.get, Eff.app, Heap.setOwn, putAt, AV.cells, fillA, loadA, takeA, mk, Eff.isAll, Eff.isNone, Eff.commutes, Eff.spares, okPair, apart, eqAgg, fits, LK.fits, allEq, aveq, eqk, mmA, beqT, wrapI, idxI, tdivI, tmodI, decT, decF, ibT, ibF, inT, inF, evScope_c, if_pos, if_neg, g0, g1, wu, k69]
  have t3 : Tr tbl J ((.seq c61_o4 (.cond (.s [true, true, false, true]) c61_o5 .skip))) (fun s h' => s.get [] = .slice b 0 1 1 ∧ s.get [false, true] = .int .u64 0 ∧ s.get [true, true] = .int .u64 n ∧ h' = ⟨h.get, h.size, []⟩) .normal (fun s h' => s.get [] = .slice b 0 1 1 ∧ s.get [true, true] = .int .u64 n ∧ h' = ⟨h.get, h.size, []⟩) := Tr.region fun s h hp => by
    obtain ⟨g0, g1, g2, rfl⟩ := hp
    simp (disch := first | omega | exact getEq rfl | exact getO0 | exact Nat.le_of_ble_eq_true rfl) [c61_o4, came_some, goI, List.getElem?_cons_zero, List.getElem?_cons_succ, kn, keep, frameOf, Heap.size, Heap.get, Eff.app, Heap.setOwn, putAt, AV.cells, fillA, loadA, takeA, mk, Eff.isAll, Eff.isNone, Eff.commutes, Eff.spares, okPair, apart, eqAgg, fits, LK.fits, allEq, aveq, eqk, mmA, beqT, wrapI, idxI, tdivI, tmodI, decT, decF, ibT, ibF, inT, inF, evScope_c, if_pos, if_neg, g0, g1, g2]
  have e0 : RB n 1 x = (List.replicate n (G 0)).set 0 (G x) := by
    obtain ⟨N, rfl⟩ : ∃ N, n = N + 1 := ⟨n - 1, by omega⟩
    simp [RB, List.replicate_succ]
  have t4 : Tr tbl J ((.seq c61_o6 c61_o7)) (fun s h' => s.get [] = .slice b 0 1 1 ∧ s.get [true, true] = .int .u64 n ∧ h' = ⟨h.get, h.size, []⟩) .normal (fun s h' => s.get [false, false, false] = .slice h.size 0 n n ∧ s.get [true, false, false] = G ((1 : Nat) : Int) ∧ h' = ⟨h.get, h.size, [.cells 1 n (RB n 1 x)]⟩) := Tr.region fun s h hp => by
    obtain ⟨g0, g1, rfl⟩ := hp
    rw [e0]
    simp (disch := first | omega | exact getEq rfl | exact getO0 | exact Nat.le_of_ble_eq_true rfl) [c61_o6, c61_o7, came_some, goI, List.getElem?_cons_zero, List.getElem?_cons_succ, kn, keep, frameOf, size_mk, get_mk_lt, get_mk_ge, Eff.app, Heap.setOwn, putAt, AV.cells, fillA, loadA, takeA, mk, Eff.isAll, Eff.isNone, Eff.commutes, Eff.spares, okPair, apart, eqAgg, fits, LK.fits, allEq, aveq, eqk, mmA, beqT, wrapI, idxI, tdivI, tmodI, decT, decF, ibT, ibF, inT, inF, evScope_c, if_pos, if_neg, g0, g1, repl, elems, copyA, rdOf, hb]
    omega
  have t5 : Tr tbl J ((.seq c61_o10 .ret)) (fun s h' => s.get [false, false, false] = .slice h.size 0 n n ∧ s.get [true, false, false] = G n ∧ h' = ⟨h.get, h.size, [.cells 1 n (RB n n x)]⟩) .ret (fun s h' => s.get [true, false] = .slice h.size 0 n n ∧ h' = ⟨h.get, h.size, [.cells 1 n (RB n n x)]⟩) := Tr.region fun s h hp => by
    obtain ⟨g0, g1, rfl⟩ := hp
    simp (disch := first | omega | exact getEq rfl | exact getO0 | exact Nat.le_of_ble_eq_true rfl) [c61_o10, came_some, goI, List.getElem?_cons_zero, List.getElem?_cons_succ, kn, keep, frameOf, Heap.size, Heap.get, Eff.app, Heap.setOwn, putAt, AV.cells, fillA, loadA, takeA, mk, Eff.isAll, Eff.isNone, Eff.commutes, Eff.spares, okPair, apart, eqAgg, fits, LK.fits, allEq, aveq, eqk, mmA, beqT, wrapI, idxI, tdivI, tmodI, decT, decF, ibT, ibF, inT, inF, evScope_c, if_pos, if_neg, g0, g1]
  refine Tr.post (fun s h' q => ?_) (Tr.seq t0 (Tr.seq t1 (Tr.seq t2 (Tr.seq t3 (Tr.app2 t4 (Tr.seq (Tr.block (rep_loop J h h2 n 1 (by omega) (by omega) h1)) t5))))))
  obtain ⟨q1, rfl⟩ := q
  simp [c61, q1, RB_all]
end

def spec61 : SpecF := fun args h => match args with
  | [.slice b 0 1 1, .int .i64 n] => match h.get b with
    | .cells 1 1 [.int .i64 x] => if 1 ≤ n ∧ n ≤ 60 then some (.slice h.size 0 n.toNat n.toNat, [.cells 1 n.toNat (List.replicate n.toNat (G x))], false) else none
    | _ => none
  | _ => none

end Go.Proofs.Ytlkgpcfhpeilhaa.Ev
