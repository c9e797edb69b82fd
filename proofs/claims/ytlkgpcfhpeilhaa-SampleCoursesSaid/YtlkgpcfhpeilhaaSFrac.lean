/-
  What frac, isSingle, (*triangle).single and Single answer. No condition.
-/
import Derived.Test.YtlkgpcfhpeilhaaSPascal
set_option linter.unusedVariables false
set_option linter.unusedSimpArgs false
namespace Go.Proofs.Ytlkgpcfhpeilhaa.Ev
open Go Go.AEv

attribute [local simp] evFunc initS evOps_c evTrim_c evSkip_c evExit_c evRet_c evSeq_c evCond_c evBlock_c evDraw_c runOps_n runOps_c exec_n exec_g pure1_c act AOpd.ev T.get T.set T.put evBin evUn forceT_eq forceV_eq forceL_eq evRess evRes one keep runFP_n runFP_c app_none AV.flats AV.flat

/-! ### gcd, frac -/
def spec68 : SpecV
  | [.int .i64 a, .int .i64 b] => if 0 ≤ a ∧ a < 9223372036854775808 ∧ 0 ≤ b ∧ b < 9223372036854775808 then some (G (Nat.gcd a.toNat b.toNat)) else none
  | _ => none

def I7 : CallF := addV I6 68 spec68
theorem s7 : Sound Go.Proofs.Try.prog I7 := Sound.addV follows ok s6 (by decide) (fun args v h => by
  unfold spec68 at h
  split at h
  · rename_i a b
    split at h
    · rename_i hn
      simp only [Option.some.injEq] at h; subst h
      have := gcd_ok I6 (fun _ _ => rfl) a.toNat b.toNat (by omega) (by omega) e0
      rwa [Int.toNat_of_nonneg hn.1, Int.toNat_of_nonneg hn.2.2.1] at this
    · cases h
  · cases h)

def fr (num den : Int) : AV := .agg [G (num / (Nat.gcd num.toNat den.toNat : Int)), G (den / (Nat.gcd num.toNat den.toNat : Int))]

def spec56 : SpecV
  | [.int .i64 num, .int .i64 den] => if 0 ≤ num ∧ num < 9223372036854775808 ∧ 0 < den ∧ den < 9223372036854775808 then some (fr num den) else none
  | _ => none

theorem c56_ok (I : CallF) (hI : ∀ a h, I 56 a h = none) (k68 : ∀ a b h, 0 ≤ a → a < 9223372036854775808 → 0 ≤ b → b < 9223372036854775808 → I 68 [G a, G b] h = some (G (Nat.gcd a.toNat b.toNat), [], false))
    (num den : Int) (h1 : 0 ≤ num) (h2 : num < 9223372036854775808) (h3 : 0 < den) (h4 : den < 9223372036854775808) : CallsTo tbl I 56 [G num, G den] e0 (fr num den, [], false) := by
  have hk := fun h => k68 num den h h1 h2 (by omega) h4
  have hg : 0 < Nat.gcd num.toNat den.toNat := Nat.gcd_pos_of_pos_right _ (by omega)
  unfold fr
  generalize Nat.gcd num.toNat den.toNat = g at *
  have hg0 : ¬ (g : Int) = 0 := by omega
  have hg1 : ¬ g = 0 := by omega
  have q1 : num.tdiv (g : Int) = num / (g : Int) := Int.tdiv_eq_ediv_of_nonneg h1
  have q2 : den.tdiv (g : Int) = den / (g : Int) := Int.tdiv_eq_ediv_of_nonneg (by omega)
  have b1 : 0 ≤ num / (g : Int) := Int.ediv_nonneg h1 (by omega)
  have b2 : num / (g : Int) ≤ num := Int.ediv_le_self _ h1
  have b3 : 0 ≤ den / (g : Int) := Int.ediv_nonneg (by omega) (by omega)
  have b4 : den / (g : Int) ≤ den := Int.ediv_le_self _ (by omega)
  have w1 : IntKind.i64.wrap (num / (g : Int)) = num / (g : Int) := wrap_id _ (by omega) (by omega)
  have w2 : IntKind.i64.wrap (den / (g : Int)) = den / (g : Int) := wrap_id _ (by omega) (by omega)
  refine CallsTo.plain (cf := c56) (h' := ⟨e0.get, 0, [.cells 0 2 [G (num / (g : Int)), G (den / (g : Int))]]⟩) (by decide) rfl (hI _ _) rfl rfl ?_
  simp [c56, kn, hk, hg0, hg1, q1, q2, w1, w2, mk, frameOf, Heap.size, e0, Eff.app, Heap.setOwn, Heap.get, putAt, fillA, AV.cells, loadA, takeA, Eff.isAll]

def I8 : CallF := addV I7 56 spec56
theorem s8 : Sound Go.Proofs.Try.prog I8 := Sound.addV follows ok s7 (by decide) (fun args v h => by
  unfold spec56 at h
  split at h
  · rename_i a b
    split at h
    · rename_i hn
      simp only [Option.some.injEq] at h; subst h
      exact c56_ok I7 (fun _ _ => rfl) (fun a b h h1 h2 h3 h4 => by simp [I7, addV, spec68, h1, h2, h3, h4]) a b hn.1 hn.2.1 hn.2.2.1 hn.2.2.2
    · cases h
  · cases h)

/-! ### isSingle -/
def planOk (lot n c : Int) : Prop := (1 ≤ n ∧ n ≤ lot) ∧ 0 ≤ c ∧ c ≤ n - 1
instance (lot n c : Int) : Decidable (planOk lot n c) := by unfold planOk; infer_instance
def spec60 : SpecV
  | [.int .i64 lot, .int .i64 n, .int .i64 c] => if lot < 9223372036854775808 then some (.bool (decide (planOk lot n c))) else none
  | _ => none

theorem c60_ok (I : CallF) (hI : ∀ a h, I 60 a h = none) (k67 : K67 I) (lot n c : Int) (hl : lot < 9223372036854775808) : CallsTo tbl I 60 [G lot, G n, G c] e0 (.bool (decide (planOk lot n c)), [], false) := by
  refine CallsTo.plain (cf := c60) (h' := frameOf e0) (by decide) rfl (hI _ _) rfl rfl ?_
  by_cases h1 : 1 ≤ n ∧ n ≤ lot
  · have w : IntKind.i64.wrap (n - 1) = n - 1 := wrap_id _ (by omega) (by omega)
    simp [c60, kn, k67 _ _ _ _, h1, w, planOk]
  · simp [c60, kn, k67 _ _ _ _, h1, planOk]

def I9 : CallF := addV I8 60 spec60
theorem s9 : Sound Go.Proofs.Try.prog I9 := Sound.addV follows ok s8 (by decide) (fun args v h => by
  unfold spec60 at h
  split at h
  · rename_i lot n c
    split at h
    · rename_i hn
      simp only [Option.some.injEq] at h; subst h
      exact c60_ok I8 (fun _ _ => rfl) (fun n lo hi h => k67 n lo hi h) lot n c hn
    · cases h
  · cases h)

/-! ### (*triangle).single -/
/-- In how many ways a plan accepts, with less than m bad pieces among the first n. -/
def acc (lot bad n : Int) : Nat → Nat
  | 0 => 0
  | m + 1 => acc lot bad n m + ofZ n m * ofZ (lot - n) (bad - m)

theorem ofZ_le (n k : Int) (N : Nat) (h : n ≤ N) : ofZ n k ≤ 2 ^ N := by
  unfold ofZ
  split
  · exact Nat.le_trans (ch_le _ _) (Nat.pow_le_pow_right (by omega) (by omega))
  · exact Nat.zero_le _

theorem acc_term (lot bad n : Int) (m : Nat) (h0 : 0 ≤ n) (h1 : n ≤ lot) (h2 : lot ≤ 36) : ofZ n m * ofZ (lot - n) (bad - m) ≤ 68719476736 := by
  have a := ofZ_le n m n.toNat (by omega)
  have b := ofZ_le (lot - n) (bad - m) (lot - n).toNat (by omega)
  have c := Nat.mul_le_mul a b
  rw [← Nat.pow_add] at c
  have d : 2 ^ (n.toNat + (lot - n).toNat) ≤ 2 ^ 36 := Nat.pow_le_pow_right (by omega) (by omega)
  omega

theorem acc_le (lot bad n : Int) (h0 : 0 ≤ n) (h1 : n ≤ lot) (h2 : lot ≤ 36) : ∀ m, acc lot bad n m ≤ m * 68719476736
  | 0 => by simp [acc]
  | m + 1 => by
    have := acc_le lot bad n h0 h1 h2 m
    have := acc_term lot bad n m h0 h1 h2
    simp only [acc]; omega

theorem single_loop (I : CallF) (k58 : ∀ args h, I 58 args h = spec58 args h) {b : Nat} {lot bad n : Int} {h : Heap} (hb : h.get b = .cells 0 1369 (tri 37 0)) (h0 : 0 ≤ n) (h1 : n ≤ lot) (h2 : lot ≤ 36) (hbad : 0 ≤ bad ∧ bad ≤ 36) (M : Nat) (hM : M ≤ 100) :
    ∀ (j m : Nat), m + j = M → ∀ s, s.get [] = .ptr b 0 1369 → s.get [false] = G lot → s.get [true] = G bad → s.get [false, false] = G n → s.get [false, false, true] = G (acc lot bad n m) → s.get [true, true, true] = G M → s.get [false, false, false, false] = G m →
    ∃ s', Runs tbl I c57_l0 s h (.exit 0, s', h) ∧ s'.get [false, false, true] = G (acc lot bad n M) := by
  intro j
  induction j with
  | zero =>
    intro m hm s g0 g1 g2 g3 g4 g5 g6
    have : m = M := by omega
    subst this
    obtain ⟨s1, e1, a1⟩ : ∃ s1, evCode (kn I) c57_b0 (keep [[], [false], [true], [false, false], [false, false, true], [true, true, true], [false, false, false, false]] s) h = some (.exit 0, s1, h) ∧ s1.get [false, false, true] = G (acc lot bad n m) := by
      simp [c57_b0, g0, g1, g2, g3, g4, g5, g6]
    exact ⟨s1, Runs.loop_out (Runs.chunk e1) (by simp), a1⟩
  | succ j ih =>
    intro m hm s g0 g1 g2 g3 g4 g5 g6
    obtain ⟨s1, e1, a0, a1, a2, a3, a4, a5, a6⟩ : ∃ s1, evCode (kn I) c57_b0 (keep [[], [false], [true], [false, false], [false, false, true], [true, true, true], [false, false, false, false]] s) h = some (.normal, s1, h) ∧
        s1.get [] = .ptr b 0 1369 ∧ s1.get [false] = G lot ∧ s1.get [true] = G bad ∧ s1.get [false, false] = G n ∧ s1.get [false, false, true] = G (acc lot bad n (m + 1)) ∧ s1.get [true, true, true] = G M ∧ s1.get [false, false, false, false] = G ((m + 1 : Nat) : Int) := by
      have hlt : (m : Int) < M := by omega
      have t1 := spec58_tri (b := b) (n := n) (k := m) hb (by omega)
      have t2 := spec58_tri (b := b) (n := lot - n) (k := bad - m) hb (by omega)
      have w1 : IntKind.i64.wrap (lot - n) = lot - n := wrap_id _ (by omega) (by omega)
      have w2 : IntKind.i64.wrap (bad - m) = bad - m := wrap_id _ (by omega) (by omega)
      have b1 := acc_term lot bad n m h0 h1 h2
      have b2 := acc_le lot bad n h0 h1 h2 m
      have w3 : IntKind.i64.wrap ((ofZ n m : Int) * (ofZ (lot - n) (bad - m) : Int)) = ((ofZ n m * ofZ (lot - n) (bad - m) : Nat) : Int) := by
        rw [← Int.natCast_mul]; exact wrap_id _ (by omega) (by omega)
      have w4 : IntKind.i64.wrap ((acc lot bad n m : Int) + ((ofZ n m * ofZ (lot - n) (bad - m) : Nat) : Int)) = (acc lot bad n (m + 1) : Int) := by
        rw [wrap_id _ (by omega) (by omega)]; simp only [acc]; omega
      have w5 : IntKind.i64.wrap ((m : Int) + 1) = ((m + 1 : Nat) : Int) := by rw [wrap_id _ (by omega) (by omega)]; omega
      simp [-Int.natCast_mul, c57_b0, kn, g0, g1, g2, g3, g4, g5, g6, hlt, k58, t1, t2, w1, w2, w3, w4, w5]
    obtain ⟨s2, r2, f⟩ := ih (m + 1) (by omega) s1 a0 a1 a2 a3 a4 a5 a6
    exact ⟨s2, Runs.loop_next (Runs.chunk e1) r2, f⟩

end Go.Proofs.Ytlkgpcfhpeilhaa.Ev
