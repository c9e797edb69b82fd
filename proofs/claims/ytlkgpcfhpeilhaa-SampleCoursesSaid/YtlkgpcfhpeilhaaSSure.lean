/-
  SampleSure answers true at any three integers, as the evaluator runs it. No condition.
-/
import Derived.Test.YtlkgpcfhpeilhaaSSureLaw
set_option linter.unusedVariables false
set_option linter.unusedSimpArgs false
namespace Go.Proofs.Ytlkgpcfhpeilhaa.Ev
open Go Go.AEv

attribute [local simp] evFunc initS evOps_c evTrim_c evSkip_c evExit_c evRet_c evSeq_c evCond_c evBlock_c evDraw_c runOps_n runOps_c exec_n exec_g pure1_c act AOpd.ev T.get T.set T.put evBin evUn forceT_eq forceV_eq forceL_eq evRess evRes one keep runFP_n runFP_c app_none AV.flats AV.flat

theorem put_last (h : Heap) (g n o : Nat) (cs vs : List AV) (hl : o + vs.length ≤ cs.length) : (Eff.put h.size n o vs).app { h with own := h.own ++ [.cells g n cs] } = some { h with own := h.own ++ [.cells g n (putAt cs o vs)] } := by
  have h1 : ¬ h.size < h.N := by simp [Heap.size]
  have h2 : h.size - h.N = h.own.length := by simp [Heap.size]
  simp only [Eff.app, h1, if_false, h2, List.getElem?_append_right (Nat.le_refl _), Nat.sub_self, List.getElem?_cons_zero, hl, and_self, if_true, forceL_eq, Heap.setOwn_eq]
  rw [List.set_append_right _ _ (Nat.le_refl _)]
  simp
theorem get_last (h : Heap) (X : AObj) : Heap.get { h with own := h.own ++ [X] } h.size = X := by
  rw [Heap.get_grow, if_pos rfl]

theorem n24 (x n : Int) (h : Heap) (h1 : 0 < n) (h2 : n < 9223372036854775808) : I17 24 [G x, G n] h = some (G ((x % 18446744073709551616) % n), [], false) := by
  simp [I17, I16, I15, I14, I13, I12, I11, I10, I9, I8, I7, I6, I5, I4, I3, addI, AEv.addV, spec24, h1, h2]

def mdZ (x n : Int) : Int := (x % 18446744073709551616) % n
theorem mdZ_lo (x : Int) {n : Int} (h : 0 < n) : 0 ≤ mdZ x n := Int.emod_nonneg _ (by omega)
theorem mdZ_hi (x : Int) {n : Int} (h : 0 < n) : mdZ x n < n := Int.emod_lt_of_pos _ h

def lotZ (a : Int) : Int := 1 + mdZ a 36
def nZ (a b : Int) : Int := 1 + mdZ b (lotZ a)
def cZ (a b c : Int) : Int := mdZ c (nZ a b)
theorem lotZ_in (a : Int) : 1 ≤ lotZ a ∧ lotZ a ≤ 36 := by
  have := mdZ_lo a (show (0 : Int) < 36 by decide)
  have := mdZ_hi a (show (0 : Int) < 36 by decide)
  unfold lotZ; omega
theorem nZ_in (a b : Int) : 1 ≤ nZ a b ∧ nZ a b ≤ lotZ a := by
  have hl := lotZ_in a
  have := mdZ_lo b (show 0 < lotZ a by omega)
  have := mdZ_hi b (show 0 < lotZ a by omega)
  unfold nZ; omega
theorem cZ_in (a b c : Int) : 0 ≤ cZ a b c ∧ cZ a b c < nZ a b := by
  have hn := nZ_in a b
  exact ⟨mdZ_lo c (by omega), mdZ_hi c (by omega)⟩

theorem c22_ok (a b c : Int) : CallsTo tbl I17 22 [.agg [G a, G b, G c]] e0 (.tup [G (lotZ a), G (nZ a b), G (cZ a b c)], [], false) := by
  have hl := lotZ_in a
  have hn := nZ_in a b
  have hc := cZ_in a b c
  have m1 := fun h => n24 a 36 h (by decide) (by decide)
  have m2 := fun h => n24 b (lotZ a) h (by omega) (by omega)
  have m3 := fun h => n24 c (nZ a b) h (by omega) (by omega)
  have w1 : IntKind.i64.wrap (1 + (a % 18446744073709551616) % 36) = lotZ a := wrap_id _ (by unfold lotZ mdZ at hl; omega) (by unfold lotZ mdZ at hl; omega)
  have w2 : IntKind.i64.wrap (1 + (b % 18446744073709551616) % lotZ a) = nZ a b := wrap_id _ (by unfold nZ mdZ at hn; omega) (by unfold nZ mdZ at hn; omega)
  have w3 : (c % 18446744073709551616) % nZ a b = cZ a b c := rfl
  refine CallsTo.plain (cf := c22) (h' := ⟨e0.get, 0, [.cells 0 3 [G a, G b, G c]]⟩) (by decide) rfl rfl rfl rfl ?_
  simp [c22, kn, m1, m2, m3, w1, w2, w3, mk, frameOf, Heap.size, e0, Eff.app, Heap.get, AV.cells, loadA, takeA, idx]

def spec22 : SpecV
  | [.agg [.int .i64 a, .int .i64 b, .int .i64 c]] => some (.tup [G (lotZ a), G (nZ a b), G (cZ a b c)])
  | _ => none
noncomputable def I18 : CallF := addV I17 22 spec22
theorem s18 : Sound Go.Proofs.Try.prog I18 := Sound.addV follows ok s17 (by decide) (fun args v h => by
  unfold spec22 at h
  split at h
  · simp only [Option.some.injEq] at h; subst h; exact c22_ok _ _ _
  · cases h)

theorem o23 (h : Heap) (lot bad n c : Int) (hl : lot < 9223372036854775808) : I18 23 [G lot, G bad, G n, G c] h = some (if lotOk lot bad ∧ planOk lot n c then .tup [fr (acc lot bad n (c.toNat + 1)) (ofZ lot bad), G 0] else .tup [.agg [G 0, G 0], G 2], [], false) := n23 h lot bad n c hl
theorem o20 (h : Heap) : I18 20 [] h = some (.bool true, [], false) := n20 h
theorem o22 (h : Heap) (a b c : Int) : I18 22 [.agg [G a, G b, G c]] h = some (.tup [G (lotZ a), G (nZ a b), G (cZ a b c)], [], false) := by
  simp [I18, AEv.addV, spec22]

theorem sure_body {lot n c m x y : Int} (s : T) (h : Heap) (g0 : s.get [false, false] = G lot) (g1 : s.get [true, false] = G n) (g2 : s.get [false, true] = G c) (g3 : s.get [true, true] = G m) (hm : m ≤ lot)
    (q23 : ∀ h, I18 23 [G lot, G m, G n, G c] h = some (.tup [.agg [G x, G y], G 0], [], false)) (w1 : IntKind.i64.wrap (lot - n) = lot - n) (w2 : IntKind.i64.wrap (lot - n + c) = lot - n + c) (w3 : IntKind.i64.wrap (m + 1) = m + 1)
    (h1 : (x = 1 ∧ y = 1) ↔ m ≤ c) (h2 : (x = 0 ∧ y = 1) ↔ lot - n + c < m) :
    ∃ s' h', evCode (kn I18) c4_b0 (keep [[false, false], [true, false], [false, true], [true, true]] s) h = some (.normal, s', h') ∧ s'.get [false, false] = G lot ∧ s'.get [true, false] = G n ∧ s'.get [false, true] = G c ∧ s'.get [true, true] = G (m + 1) := by
  have e1 : ((x == 1) && (y == 1)) = decide (m ≤ c) := by
    rw [Bool.eq_iff_iff]; simpa using h1
  have e2 : ((x == 0) && (y == 1)) = decide (lot - n + c < m) := by
    rw [Bool.eq_iff_iff]; simpa using h2
  have hpl := fun (g n o : Nat) (cs vs : List AV) (hl : o + vs.length ≤ cs.length) => put_last h g n o cs vs hl
  have hgr : ∀ X, Eff.app (.grow [X]) h = some { h with own := h.own ++ [X] } := fun X => by simp [Eff.app]
  have hp := put_last h 0 2 0 [.int .i64 0, .int .i64 0] [G x, G y] (by simp)
  have hgl := get_last h (.cells 0 2 [G x, G y])
  have ha : ∀ z, (some (x == z) == some true) = (x == z) := fun z => by cases x == z <;> rfl
  have hb : (some (y == 1) == some true) = (y == 1) := by cases y == 1 <;> rfl
  simp only [putAt, List.set_cons_zero, List.set_cons_succ] at hp
  simp [-Int.reduceNeg, c4_b0, kn, g0, g1, g2, g3, hm, q23, w1, w2, w3, hgr, hp, hgl, mk, AV.cells, loadA, takeA, Eff.isAll, okPair, Eff.commutes, Eff.isNone, Eff.spares, fillA, putAt, eqAgg, fits, LK.fits, allEq, aveq, eqk, ha, hb, e1, e2]


theorem sure_loop {lot n c : Int} (hl : 1 ≤ lot ∧ lot ≤ 36) (hp : planOk lot n c) : ∀ (j m : Nat), m + j = lot.toNat + 1 → ∀ s h, s.get [false, false] = G lot → s.get [true, false] = G n → s.get [false, true] = G c → s.get [true, true] = G m →
    ∃ s' h', Runs tbl I18 c4_l0 s h (.exit 0, s', h') := by
  intro j
  induction j with
  | zero =>
    intro m hm s h g0 g1 g2 g3
    obtain ⟨s1, e1⟩ : ∃ s1, evCode (kn I18) c4_b0 (keep [[false, false], [true, false], [false, true], [true, true]] s) h = some (.exit 0, s1, h) := by
      have : ¬ ((m : Int) ≤ lot) := by omega
      simp [c4_b0, g0, g1, g2, g3, this]
    exact ⟨s1, h, Runs.loop_out (Runs.chunk e1) (by simp)⟩
  | succ j ih =>
    intro m hm s h g0 g1 g2 g3
    have hml : (m : Int) ≤ lot := by omega
    have hlo : lotOk lot m := ⟨hl, by omega, hml⟩
    obtain ⟨⟨p1, p2⟩, p3, p4⟩ := hp
    have hpos := ofZ_pos (n := lot) (k := (m : Int)) (by omega) hml
    have q := fun h => o23 h lot m n c (by omega)
    rw [if_pos ⟨hlo, ⟨p1, p2⟩, p3, p4⟩] at q
    have k1 := fr_one (a := acc lot m n (c.toNat + 1)) (b := ofZ lot m) hpos
    have k2 := fr_zero (a := acc lot m n (c.toNat + 1)) (b := ofZ lot m) hpos
    rw [acc_one p2 (by omega) hml p3 (by omega)] at k1
    rw [acc_none p2 (by omega) hml p3 (by omega)] at k2
    obtain ⟨s1, h1, e1, b0, b1, b2, b3⟩ := sure_body s h g0 g1 g2 g3 hml (fun h => by simpa [fr] using q h) (wrap_id _ (by omega) (by omega)) (wrap_id _ (by omega) (by omega)) (wrap_id _ (by omega) (by omega)) k1 k2
    obtain ⟨s2, h2, r2⟩ := ih (m + 1) (by omega) s1 h1 b0 b1 b2 (by rw [b3]; simp)
    exact ⟨s2, h2, Runs.loop_next (Runs.chunk e1) r2⟩


theorem sure_ok (a b c : Int) : CallsTo tbl I18 4 [.agg [G a, G b, G c]] e0 (.bool true, [], false) := by
  have hl := lotZ_in a
  have hn := nZ_in a b
  have hc := cZ_in a b c
  let s0 : T := T.set .leaf [] (.agg [G a, G b, G c])
  obtain ⟨s1, h1, e1, a1⟩ : ∃ s1 h1, evCode (kn I18) (.seq (.ops [
  ⟨some [false], .box none (.s []), none⟩,
  ⟨some [true], .move (.c (.bool false)), none⟩])
 (.ops [
  ⟨some [true, false, true], .load (some 3) (.s [false]), none⟩,
  ⟨some [false, true, true], .call false (.c (.func 22 [])) [(.s [true, false, true])], none⟩,
  ⟨some [false, false, true], .move (.s [false, true, true]), none⟩,
  ⟨some [true, true, true], .extract 0 (.s [false, false, true]), none⟩,
  ⟨some [false, false, false, false], .extract 1 (.s [false, false, true]), none⟩,
  ⟨some [true, false, false, false], .extract 2 (.s [false, false, true]), none⟩,
  ⟨some [false, false], .move (.s [true, true, true]), none⟩,
  ⟨some [true, false], .move (.s [false, false, false, false]), none⟩,
  ⟨some [false, true], .move (.s [true, false, false, false]), none⟩])) s0 (frameOf e0) = some (.normal, s1, h1) ∧ s1.get [false, false] = G (lotZ a) ∧ s1.get [true, false] = G (nZ a b) ∧ s1.get [false, true] = G (cZ a b c) := by
    simp [s0, kn, o22, mk, frameOf, Heap.size, e0, Eff.app, Heap.get, AV.cells, loadA, takeA]
  obtain ⟨s2, e2, b0, b1, b2, b3⟩ : ∃ s2, evCode (kn I18) (.ops [⟨some [true, true], .move (.c (.int .i64 0)), none⟩]) s1 h1 = some (.normal, s2, h1) ∧ s2.get [false, false] = G (lotZ a) ∧ s2.get [true, false] = G (nZ a b) ∧ s2.get [false, true] = G (cZ a b c) ∧ s2.get [true, true] = G ((0 : Nat) : Int) := by
    simp [T.get_set, a1]
  obtain ⟨s3, h3, r3⟩ := sure_loop (lot := lotZ a) (n := nZ a b) (c := cZ a b c) hl ⟨hn, hc.1, by omega⟩ ((lotZ a).toNat + 1) 0 (by omega) s2 h1 b0 b1 b2 b3
  obtain ⟨s4, e4, d4⟩ : ∃ s4, evCode (kn I18) (.seq (.ops [
  ⟨some [true, false, false, true, true], .call false (.c (.func 20 [])) [], none⟩,
  ⟨some [true], .move (.s [true, false, false, true, true]), none⟩])
 .ret) s3 h3 = some (.ret, s4, h3) ∧ s4.get [true] = .bool true := by
    simp [T.get_set, kn, o20]
  have := CallsTo.fn (tbl := tbl) (I := I18) (f := 4) (args := [.agg [G a, G b, G c]]) (h := e0) (cf := c4) (s := s0) (e := .ret) (vs := [.bool true]) (by decide) rfl rfl rfl rfl
    (Runs.assoc (Runs.seq (Runs.chunk e1) (Runs.seq (Runs.seq (Runs.chunk e2) (Runs.block_exit r3)) (Runs.chunk e4)))) (by simp) (by simp [c4, d4])
  exact this

end Go.Proofs.Ytlkgpcfhpeilhaa.Ev
