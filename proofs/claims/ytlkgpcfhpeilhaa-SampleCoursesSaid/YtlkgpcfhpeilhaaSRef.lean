/-
  What the reference's Lot, Plan, Binomial, gcd, Reduced and Accepts answer. No condition.
-/
import Derived.Test.YtlkgpcfhpeilhaaSSingle
set_option linter.unusedVariables false
set_option linter.unusedSimpArgs false
namespace Go.Proofs.Ytlkgpcfhpeilhaa.Ev
open Go Go.AEv

attribute [local simp] evFunc initS evOps_c evTrim_c evSkip_c evExit_c evRet_c evSeq_c evCond_c evBlock_c evDraw_c runOps_n runOps_c exec_n exec_g pure1_c act AOpd.ev T.get T.set T.put evBin evUn forceT_eq forceV_eq forceL_eq evRess evRes one keep runFP_n runFP_c app_none AV.flats AV.flat

/-! ### Lot, Plan -/
theorem c18_ok (I : CallF) (hI : ∀ a h, I 18 a h = none) (lot bad : Int) : CallsTo tbl I 18 [G lot, G bad] e0 (.bool (decide (lotOk lot bad)), [], false) := by
  refine CallsTo.plain (cf := c18) (h' := frameOf e0) (by decide) rfl (hI _ _) rfl rfl ?_
  by_cases h1 : 1 ≤ lot
  · by_cases h2 : lot ≤ 36
    · by_cases h3 : 0 ≤ bad
      · simp [c18, h1, h2, h3, lotOk]
      · simp [c18, h1, h2, h3, lotOk]
    · simp [c18, h1, h2, lotOk]
  · simp [c18, h1, lotOk]

def spec30 : SpecV
  | [.int .i64 lot, .int .i64 n, .int .i64 c] => some (.bool (decide (planOk lot n c)))
  | _ => none
theorem c30_ok (I : CallF) (hI : ∀ a h, I 30 a h = none) (lot n c : Int) : CallsTo tbl I 30 [G lot, G n, G c] e0 (.bool (decide (planOk lot n c)), [], false) := by
  refine CallsTo.plain (cf := c30) (h' := frameOf e0) (by decide) rfl (hI _ _) rfl rfl ?_
  have hiff : planOk lot n c ↔ (0 ≤ c ∧ c < n) ∧ n ≤ lot := by unfold planOk; omega
  rw [show decide (planOk lot n c) = decide ((0 ≤ c ∧ c < n) ∧ n ≤ lot) from by simp only [hiff]]
  by_cases h1 : 0 ≤ c
  · by_cases h2 : c < n
    · simp [c30, h1, h2]
    · simp [c30, h1, h2]
  · simp [c30, h1]

/-! ### gcd, Reduced -/
theorem rgcd_loop (I : CallF) : ∀ (b a : Nat), a < 2^63 → b < 2^63 → ∀ s h, s.get [] = G a → s.get [false] = G b → ∃ s', Runs tbl I c59_l0 s h (.exit 0, s', h) ∧ s'.get [] = G (Nat.gcd a b) := by
  intro b
  induction b using Nat.strongRecOn with
  | _ b ih =>
    intro a ha hb s h hs1 hs2
    by_cases hb0 : b = 0
    · subst hb0
      obtain ⟨s1, e1, e2⟩ : ∃ s1, evCode (kn I) c59_b0 (keep [[], [false]] s) h = some (.exit 0, s1, h) ∧ s1.get [] = G a := by
        simp [c59_b0, hs1, hs2]
      refine ⟨s1, Runs.loop_out (Runs.chunk e1) (by simp), ?_⟩
      rw [e2]; simp
    · have hpos : 0 < b := Nat.pos_of_ne_zero hb0
      obtain ⟨s1, e1, e2, e3⟩ : ∃ s1, evCode (kn I) c59_b0 (keep [[], [false]] s) h = some (.normal, s1, h) ∧ s1.get [] = G b ∧ s1.get [false] = G ((a % b : Nat) : Int) := by
        have hbz : ¬ (b : Int) = 0 := by omega
        have hmod : (a : Int).tmod (b : Int) = ((a % b : Nat) : Int) := by
          rw [Int.tmod_eq_emod_of_nonneg (by omega)]; rfl
        simp [c59_b0, hs1, hs2, hpos, hb0, hbz, Eff.isAll, hmod]
      obtain ⟨s2, r2, g2⟩ := ih (a % b) (Nat.mod_lt _ hpos) b hb (Nat.lt_trans (Nat.mod_lt _ hpos) hb) s1 h e2 e3
      refine ⟨s2, Runs.loop_next (Runs.chunk e1) r2, ?_⟩
      rw [g2, Nat.gcd_comm b (a % b), Nat.gcd_comm a b, Nat.gcd_rec b a]

theorem rgcd_ok (I : CallF) (hI : ∀ a h, I 59 a h = none) (a b : Nat) (ha : a < 2^63) (hb : b < 2^63) (h : Heap) : CallsTo tbl I 59 [G a, G b] h (G (Nat.gcd a b), [], false) := by
  obtain ⟨s1, e1, e2, e3⟩ : ∃ s1, evCode (kn I) (.ops [⟨some [true, false], .move (.c (.int .i64 0)), none⟩]) (T.set (T.set .leaf [] (G a)) [false] (G b)) (frameOf h) = some (.normal, s1, frameOf h) ∧ s1.get [] = G a ∧ s1.get [false] = G b := by simp
  obtain ⟨s2, r2, g2⟩ := rgcd_loop I b a ha hb s1 (frameOf h) e2 e3
  obtain ⟨s3, e4, e5⟩ : ∃ s3, evCode (kn I) (.seq (.ops [
  ⟨some [false, true, true], .move (.s []), none⟩,
  ⟨some [true, false], .move (.s [false, true, true]), none⟩])
 .ret) s2 (frameOf h) = some (.ret, s3, frameOf h) ∧ s3.get [true, false] = G (Nat.gcd a b) := by
    simp [T.get_set, g2]
  exact CallsTo.fn (cf := c59) (s := T.set (T.set .leaf [] (G a)) [false] (G b)) (e := .ret) (vs := [G (Nat.gcd a b)]) (by decide) rfl (hI _ _) rfl rfl (Runs.seq (Runs.chunk e1) (Runs.seq (Runs.block_exit r2) (Runs.chunk e4))) (by simp) (by simp [c59, e5])

theorem c25_ok (I : CallF) (hI : ∀ a h, I 25 a h = none) (k59 : ∀ a b h, 0 ≤ a → a < 9223372036854775808 → 0 ≤ b → b < 9223372036854775808 → I 59 [G a, G b] h = some (G (Nat.gcd a.toNat b.toNat), [], false))
    (num den : Int) (h1 : 0 ≤ num) (h2 : num < 9223372036854775808) (h3 : 0 < den) (h4 : den < 9223372036854775808) : CallsTo tbl I 25 [G num, G den] e0 (fr num den, [], false) := by
  have hk := fun h => k59 num den h h1 h2 (by omega) h4
  have hg : 0 < Nat.gcd num.toNat den.toNat := Nat.gcd_pos_of_pos_right _ (by omega)
  unfold fr
  generalize Nat.gcd num.toNat den.toNat = g at *
  have hg0 : ¬ (g : Int) = 0 := by omega
  have hg1 : ¬ g = 0 := by omega
  have q1 : num.tdiv (g : Int) = num / (g : Int) := Int.tdiv_eq_ediv_of_nonneg h1
  have q2 : den.tdiv (g : Int) = den / (g : Int) := Int.tdiv_eq_ediv_of_nonneg (by omega)
  have b1 : 0 ≤ num / (g : Int) := Int.ediv_nonneg h1 (by omega)
  have b2 : num / (g : Int) ≤ num := Int.ediv_le_self _ h1
  have b3 : 0 ≤ den / (g : Int) := Int.ediv_nonneg (by omega) (by omega)
  have b4 : den / (g : Int) ≤ den := Int.ediv_le_self _ (by omega)
  have w1 : IntKind.i64.wrap (num / (g : Int)) = num / (g : Int) := wrap_id _ (by omega) (by omega)
  have w2 : IntKind.i64.wrap (den / (g : Int)) = den / (g : Int) := wrap_id _ (by omega) (by omega)
  refine CallsTo.plain (cf := c25) (h' := ⟨e0.get, 0, [.cells 0 2 [G (num / (g : Int)), G (den / (g : Int))]]⟩) (by decide) rfl (hI _ _) rfl rfl ?_
  simp [c25, kn, hk, hg0, hg1, q1, q2, w1, w2, mk, frameOf, Heap.size, e0, Eff.app, Heap.setOwn, Heap.get, putAt, fillA, AV.cells, loadA, takeA, Eff.isAll]

/-! ### Binomial -/
theorem ch_absorb : ∀ (n k : Nat), (k + 1) * ch (n + 1) (k + 1) = (n + 1) * ch n k
  | 0, 0 => rfl
  | 0, k + 1 => by simp [ch]
  | n + 1, 0 => by
    have h0 := ch_absorb n 0
    have e : ch (n + 2) 1 = ch (n + 1) 0 + ch (n + 1) 1 := rfl
    simp only [Nat.zero_add, Nat.one_mul, ch_zero, Nat.mul_one] at h0 e ⊢
    show ch (n + 2) 1 = n + 1 + 1
    omega
  | n + 1, k + 1 => by
    have h1 := ch_absorb n (k + 1)
    have h2 := ch_absorb n k
    have e : ch (n + 2) (k + 2) = ch (n + 1) (k + 1) + ch (n + 1) (k + 2) := rfl
    have e2 : ch (n + 1) (k + 1) = ch n k + ch n (k + 1) := rfl
    show (k + 1 + 1) * ch (n + 2) (k + 2) = (n + 1 + 1) * ch (n + 1) (k + 1)
    rw [e, Nat.mul_add, h1, Nat.add_mul (k + 1) 1, h2, Nat.add_mul (n + 1) 1, Nat.one_mul]
    have e3 : (n + 1) * ch (n + 1) (k + 1) = (n + 1) * ch n k + (n + 1) * ch n (k + 1) := by rw [e2, Nat.mul_add]
    omega

theorem bin_loop (I : CallF) (n k : Nat) (hk : k ≤ n) (hn : n ≤ 36) (h : Heap) : ∀ (j i : Nat), i + j = k + 1 → 1 ≤ i → ∀ s, s.get [] = G n → s.get [false] = G k → s.get [false, true] = G (ch (n - k + (i - 1)) (i - 1)) → s.get [true, true] = G i →
    ∃ s', Runs tbl I c29_l0 s h (.exit 0, s', h) ∧ s'.get [false, true] = G (ch n k) := by
  intro j
  induction j with
  | zero =>
    intro i hi h1 s g0 g1 g2 g3
    have : i = k + 1 := by omega
    subst this
    have hnk : n - k + (k + 1 - 1) = n := by omega
    rw [hnk] at g2
    obtain ⟨s1, e1, a1⟩ : ∃ s1, evCode (kn I) c29_b0 (keep [[], [false], [false, true], [true, true]] s) h = some (.exit 0, s1, h) ∧ s1.get [false, true] = G (ch n k) := by
      have : ¬ ((k : Int) + 1 ≤ k) := by omega
      simp [c29_b0, g0, g1, g2, g3, this]
    exact ⟨s1, Runs.loop_out (Runs.chunk e1) (by simp), a1⟩
  | succ j ih =>
    intro i hi h1 s g0 g1 g2 g3
    obtain ⟨s1, e1, a0, a1, a2, a3⟩ : ∃ s1, evCode (kn I) c29_b0 (keep [[], [false], [false, true], [true, true]] s) h = some (.normal, s1, h) ∧ s1.get [] = G n ∧ s1.get [false] = G k ∧ s1.get [false, true] = G (ch (n - k + i) i) ∧ s1.get [true, true] = G ((i + 1 : Nat) : Int) := by
      have hle : (i : Int) ≤ k := by omega
      have w1 : IntKind.i64.wrap ((n : Int) - k) = ((n - k : Nat) : Int) := by rw [wrap_id _ (by omega) (by omega)]; omega
      have w2 : IntKind.i64.wrap (((n - k : Nat) : Int) + i) = ((n - k + i : Nat) : Int) := by rw [wrap_id _ (by omega) (by omega)]; omega
      have bd := ch_le (n - k + (i - 1)) (i - 1)
      have bd2 : 2 ^ (n - k + (i - 1)) ≤ 2 ^ 36 := Nat.pow_le_pow_right (by omega) (by omega)
      have bm : ch (n - k + (i - 1)) (i - 1) * (n - k + i) ≤ 68719476736 * 36 := Nat.mul_le_mul (by omega) (by omega)
      have w3 : IntKind.i64.wrap ((ch (n - k + (i - 1)) (i - 1) : Int) * ((n - k + i : Nat) : Int)) = ((ch (n - k + (i - 1)) (i - 1) * (n - k + i) : Nat) : Int) := by
        rw [← Int.natCast_mul]; exact wrap_id _ (by omega) (by omega)
      have hab : ch (n - k + (i - 1)) (i - 1) * (n - k + i) = i * ch (n - k + i) i := by
        have := ch_absorb (n - k + (i - 1)) (i - 1)
        have e1 : n - k + (i - 1) + 1 = n - k + i := by omega
        have e2 : i - 1 + 1 = i := by omega
        rw [e1, e2] at this
        rw [this, Nat.mul_comm]
      have q : (((ch (n - k + (i - 1)) (i - 1) * (n - k + i) : Nat) : Int)).tdiv (i : Int) = (ch (n - k + i) i : Int) := by
        rw [hab, Int.tdiv_eq_ediv_of_nonneg (by omega), Int.natCast_mul, Int.mul_ediv_cancel_left _ (by omega)]
      have bd3 := ch_le (n - k + i) i
      have bd4 : 2 ^ (n - k + i) ≤ 2 ^ 36 := Nat.pow_le_pow_right (by omega) (by omega)
      have w4 : IntKind.i64.wrap (ch (n - k + i) i : Int) = (ch (n - k + i) i : Int) := wrap_id _ (by omega) (by omega)
      have w5 : IntKind.i64.wrap ((i : Int) + 1) = ((i + 1 : Nat) : Int) := by rw [wrap_id _ (by omega) (by omega)]; omega
      have hi0 : ¬ (i : Int) = 0 := by omega
      have hi1 : ¬ i = 0 := by omega
      simp [-Int.natCast_mul, -Int.natCast_add, c29_b0, g0, g1, g2, g3, hle, w1, w2, w3, q, w4, w5, hi0, hi1]
    obtain ⟨s2, r2, f⟩ := ih (i + 1) (by omega) (by omega) s1 a0 a1 (by simpa using a2) a3
    exact ⟨s2, Runs.loop_next (Runs.chunk e1) r2, f⟩


theorem c29_ok (I : CallF) (hI : ∀ a h, I 29 a h = none) (n k : Int) (hn : n ≤ 36) : CallsTo tbl I 29 [G n, G k] e0 (G (ofZ n k), [], false) := by
  by_cases hk : 0 ≤ k ∧ k ≤ n
  · obtain ⟨N, rfl⟩ : ∃ N : Nat, n = N := ⟨n.toNat, by omega⟩
    obtain ⟨K, rfl⟩ : ∃ K : Nat, k = K := ⟨k.toNat, by omega⟩
    have hz : ofZ (N : Int) (K : Int) = ch N K := by unfold ofZ; rw [if_pos hk]; rfl
    rw [hz]
    let s0 : T := T.set (T.set .leaf [] (G N)) [false] (G K)
    have n1 : ¬ (K : Int) < 0 := by omega
    have n2 : ¬ (N : Int) < K := by omega
    have n3 : ¬ N < K := by omega
    obtain ⟨s1, e1, a0, a1⟩ : ∃ s1, evCode (kn I) (.ops [⟨some [true, false], .move (.c (.int .i64 0)), none⟩]) s0 (frameOf e0) = some (.normal, s1, frameOf e0) ∧ s1.get [] = G N ∧ s1.get [false] = G K := by
      simp [s0]
    obtain ⟨s2, e2, b0, b1⟩ : ∃ s2, evCode (kn I) (.seq (.ops [
  ⟨some [false, false, false], .move (.s [false]), none⟩,
  ⟨some [true, false, false], .bin .lss (.s [false, false, false]) (.c (.int .i64 0)), none⟩,
  ⟨some [false, true, false], .move (.s [true, false, false]), none⟩,
  ⟨some [true, true, false], .move (.s [false]), some ([false, true, false], false)⟩,
  ⟨some [false, false, true], .move (.s []), some ([false, true, false], false)⟩,
  ⟨some [true, false, true], .bin .gtr (.s [true, true, false]) (.s [false, false, true]), some ([false, true, false], false)⟩,
  ⟨some [false, true, true], .pick (.s [false, true, false]) (.c (.bool true)) (.s [true, false, true]), none⟩])
 (.cond (.s [false, true, true]) (.seq (.ops [
  ⟨some [true, false], .move (.c (.int .i64 0)), none⟩])
 .ret) .skip)) s1 (frameOf e0) = some (.normal, s2, frameOf e0) ∧ s2.get [] = G N ∧ s2.get [false] = G K := by
      simp [T.get_set, a0, a1, n1, n2, n3]
    obtain ⟨s3, e3, c0, c1, c2⟩ : ∃ s3, evCode (kn I) (.ops [⟨some [false, true], .move (.c (.int .i64 1)), none⟩]) s2 (frameOf e0) = some (.normal, s3, frameOf e0) ∧ s3.get [] = G N ∧ s3.get [false] = G K ∧ s3.get [false, true] = G 1 := by
      simp [T.get_set, b0, b1]
    obtain ⟨s4, e4, d0, d1, d2, d3⟩ : ∃ s4, evCode (kn I) (.ops [⟨some [true, true], .move (.c (.int .i64 1)), none⟩]) s3 (frameOf e0) = some (.normal, s4, frameOf e0) ∧ s4.get [] = G N ∧ s4.get [false] = G K ∧ s4.get [false, true] = G 1 ∧ s4.get [true, true] = G 1 := by
      simp [T.get_set, c0, c1, c2]
    obtain ⟨s5, r5, f5⟩ := bin_loop I N K (by omega) (by omega) (frameOf e0) K 1 (by omega) (by omega) s4 d0 d1 (by simpa [ch_zero] using d2) d3
    obtain ⟨s6, e6, f6⟩ : ∃ s6, evCode (kn I) (.seq (.ops [
  ⟨some [true, false, true, true], .move (.s [false, true]), none⟩,
  ⟨some [true, false], .move (.s [true, false, true, true]), none⟩])
 .ret) s5 (frameOf e0) = some (.ret, s6, frameOf e0) ∧ s6.get [true, false] = G (ch N K) := by
      simp [T.get_set, f5]
    exact CallsTo.fn (cf := c29) (s := s0) (e := .ret) (vs := [G (ch N K)]) (by decide) rfl (hI _ _) rfl rfl
      (Runs.seq (Runs.chunk e1) (Runs.seq (Runs.chunk e2) (Runs.seq (Runs.chunk e3) (Runs.seq (Runs.seq (Runs.chunk e4) (Runs.block_exit r5)) (Runs.chunk e6))))) (by simp) (by simp [c29, f6])
  · have hz : ofZ n k = 0 := by unfold ofZ; rw [if_neg hk]
    rw [hz]
    let s0 : T := T.set (T.set .leaf [] (G n)) [false] (G k)
    obtain ⟨s1, e1, a0, a1⟩ : ∃ s1, evCode (kn I) (.ops [⟨some [true, false], .move (.c (.int .i64 0)), none⟩]) s0 (frameOf e0) = some (.normal, s1, frameOf e0) ∧ s1.get [] = G n ∧ s1.get [false] = G k := by
      simp [s0]
    obtain ⟨s2, e2, b0⟩ : ∃ s2, evCode (kn I) (.seq (.ops [
  ⟨some [false, false, false], .move (.s [false]), none⟩,
  ⟨some [true, false, false], .bin .lss (.s [false, false, false]) (.c (.int .i64 0)), none⟩,
  ⟨some [false, true, false], .move (.s [true, false, false]), none⟩,
  ⟨some [true, true, false], .move (.s [false]), some ([false, true, false], false)⟩,
  ⟨some [false, false, true], .move (.s []), some ([false, true, false], false)⟩,
  ⟨some [true, false, true], .bin .gtr (.s [true, true, false]) (.s [false, false, true]), some ([false, true, false], false)⟩,
  ⟨some [false, true, true], .pick (.s [false, true, false]) (.c (.bool true)) (.s [true, false, true]), none⟩])
 (.cond (.s [false, true, true]) (.seq (.ops [
  ⟨some [true, false], .move (.c (.int .i64 0)), none⟩])
 .ret) .skip)) s1 (frameOf e0) = some (.ret, s2, frameOf e0) ∧ s2.get [true, false] = G 0 := by
      by_cases hk0 : k < 0
      · simp [T.get_set, a0, a1, hk0]
      · have : n < k := by omega
        simp [T.get_set, a0, a1, hk0, this]
    exact CallsTo.fn (cf := c29) (s := s0) (e := .ret) (vs := [G ((0 : Nat) : Int)]) (by decide) rfl (hI _ _) rfl rfl
      (Runs.seq (Runs.chunk e1) (Runs.seq_out (Runs.chunk e2) (by simp))) (by simp) (by simp [c29, b0])

theorem acc_loop (I : CallF) (k29 : ∀ n k h, n ≤ 36 → I 29 [G n, G k] h = some (G (ofZ n k), [], false)) {lot bad n : Int} {h : Heap} (h0 : 0 ≤ n) (h1 : n ≤ lot) (h2 : lot ≤ 36) (hbad : 0 ≤ bad ∧ bad ≤ 36) (c : Nat) (hc : c ≤ 36) :
    ∀ (j m : Nat), m + j = c + 1 → ∀ s, s.get [] = G lot → s.get [false] = G bad → s.get [true] = G n → s.get [false, false] = G c → s.get [false, true, false] = G (acc lot bad n m) → s.get [true, true, false] = G m →
    ∃ s', Runs tbl I c31_l0 s h (.exit 0, s', h) ∧ s'.get [false, true, false] = G (acc lot bad n (c + 1)) := by
  intro j
  induction j with
  | zero =>
    intro m hm s g0 g1 g2 g3 g4 g5
    have : m = c + 1 := by omega
    subst this
    obtain ⟨s1, e1, a1⟩ : ∃ s1, evCode (kn I) c31_b0 (keep [[], [false], [true], [false, false], [false, true, false], [true, true, false]] s) h = some (.exit 0, s1, h) ∧ s1.get [false, true, false] = G (acc lot bad n (c + 1)) := by
      have : ¬ ((c : Int) + 1 ≤ c) := by omega
      simp [c31_b0, g0, g1, g2, g3, g4, g5, this]
    exact ⟨s1, Runs.loop_out (Runs.chunk e1) (by simp), a1⟩
  | succ j ih =>
    intro m hm s g0 g1 g2 g3 g4 g5
    obtain ⟨s1, e1, a0, a1, a2, a3, a4, a5⟩ : ∃ s1, evCode (kn I) c31_b0 (keep [[], [false], [true], [false, false], [false, true, false], [true, true, false]] s) h = some (.normal, s1, h) ∧
        s1.get [] = G lot ∧ s1.get [false] = G bad ∧ s1.get [true] = G n ∧ s1.get [false, false] = G c ∧ s1.get [false, true, false] = G (acc lot bad n (m + 1)) ∧ s1.get [true, true, false] = G ((m + 1 : Nat) : Int) := by
      have hlt : (m : Int) ≤ c := by omega
      have hlt' : m ≤ c := by omega
      have t1 := fun h => k29 n m h (by omega)
      have t2 := fun h => k29 (lot - n) (bad - m) h (by omega)
      have w1 : IntKind.i64.wrap (lot - n) = lot - n := wrap_id _ (by omega) (by omega)
      have w2 : IntKind.i64.wrap (bad - m) = bad - m := wrap_id _ (by omega) (by omega)
      have b1 := acc_term lot bad n m h0 h1 h2
      have b2 := acc_le lot bad n h0 h1 h2 m
      have w3 : IntKind.i64.wrap ((ofZ n m : Int) * (ofZ (lot - n) (bad - m) : Int)) = ((ofZ n m * ofZ (lot - n) (bad - m) : Nat) : Int) := by
        rw [← Int.natCast_mul]; exact wrap_id _ (by omega) (by omega)
      have w4 : IntKind.i64.wrap ((acc lot bad n m : Int) + ((ofZ n m * ofZ (lot - n) (bad - m) : Nat) : Int)) = (acc lot bad n (m + 1) : Int) := by
        rw [wrap_id _ (by omega) (by omega)]; simp only [acc]; omega
      have w5 : IntKind.i64.wrap ((m : Int) + 1) = ((m + 1 : Nat) : Int) := by rw [wrap_id _ (by omega) (by omega)]; omega
      simp [-Int.natCast_mul, c31_b0, kn, g0, g1, g2, g3, g4, g5, hlt, hlt', t1, t2, w1, w2, w3, w4, w5]
    obtain ⟨s2, r2, f⟩ := ih (m + 1) (by omega) s1 a0 a1 a2 a3 a4 a5
    exact ⟨s2, Runs.loop_next (Runs.chunk e1) r2, f⟩

end Go.Proofs.Ytlkgpcfhpeilhaa.Ev
