/-
  What the reference's Accepts answers; what is known of all of these. No condition.
-/
import Derived.Test.YtlkgpcfhpeilhaaSRef
set_option linter.unusedVariables false
set_option linter.unusedSimpArgs false
namespace Go.Proofs.Ytlkgpcfhpeilhaa.Ev
open Go Go.AEv

attribute [local simp] evFunc initS evOps_c evTrim_c evSkip_c evExit_c evRet_c evSeq_c evCond_c evBlock_c evDraw_c runOps_n runOps_c exec_n exec_g pure1_c act AOpd.ev T.get T.set T.put evBin evUn forceT_eq forceV_eq forceL_eq evRess evRes one keep runFP_n runFP_c app_none AV.flats AV.flat

theorem c31_ok (I : CallF) (hI : ∀ a h, I 31 a h = none) (k29 : ∀ n k h, n ≤ 36 → I 29 [G n, G k] h = some (G (ofZ n k), [], false)) {lot bad n c : Int} (h0 : 0 ≤ n) (h1 : n ≤ lot) (h2 : lot ≤ 36) (hbad : 0 ≤ bad ∧ bad ≤ 36) (hc : 0 ≤ c ∧ c ≤ 36) :
    CallsTo tbl I 31 [G lot, G bad, G n, G c] e0 (G (acc lot bad n (c.toNat + 1)), [], false) := by
  obtain ⟨C, rfl⟩ : ∃ C : Nat, c = C := ⟨c.toNat, by omega⟩
  simp only [Int.toNat_natCast]
  let s0 : T := T.set (T.set (T.set (T.set .leaf [] (G lot)) [false] (G bad)) [true] (G n)) [false, false] (G C)
  obtain ⟨s1, e1, a1, a2, a3, a4⟩ : ∃ s1, evCode (kn I) (.ops [⟨some [true, false, false], .move (.c (.int .i64 0)), none⟩]) s0 (frameOf e0) = some (.normal, s1, frameOf e0) ∧ s1.get [] = G lot ∧ s1.get [false] = G bad ∧ s1.get [true] = G n ∧ s1.get [false, false] = G C := by
    simp [s0]
  obtain ⟨s2, e2, b1, b2, b3, b4, b5⟩ : ∃ s2, evCode (kn I) (.ops [⟨some [false, true, false], .move (.c (.int .i64 0)), none⟩]) s1 (frameOf e0) = some (.normal, s2, frameOf e0) ∧ s2.get [] = G lot ∧ s2.get [false] = G bad ∧ s2.get [true] = G n ∧ s2.get [false, false] = G C ∧ s2.get [false, true, false] = G 0 := by
    simp [T.get_set, a1, a2, a3, a4]
  obtain ⟨s3, e3, c1, c2, c3, c4, c5, c6⟩ : ∃ s3, evCode (kn I) (.ops [⟨some [true, true, false], .move (.c (.int .i64 0)), none⟩]) s2 (frameOf e0) = some (.normal, s3, frameOf e0) ∧ s3.get [] = G lot ∧ s3.get [false] = G bad ∧ s3.get [true] = G n ∧ s3.get [false, false] = G C ∧ s3.get [false, true, false] = G 0 ∧ s3.get [true, true, false] = G 0 := by
    simp [T.get_set, b1, b2, b3, b4, b5]
  obtain ⟨s4, r4, d4⟩ := acc_loop I k29 (h := frameOf e0) h0 h1 h2 hbad C (by omega) (C + 1) 0 (by omega) s3 c1 c2 c3 c4 c5 c6
  obtain ⟨s5, e5, f5⟩ : ∃ s5, evCode (kn I) (.seq (.ops [
  ⟨some [false, true, true, true], .move (.s [false, true, false]), none⟩,
  ⟨some [true, false, false], .move (.s [false, true, true, true]), none⟩])
 .ret) s4 (frameOf e0) = some (.ret, s5, frameOf e0) ∧ s5.get [true, false, false] = G (acc lot bad n (C + 1)) := by
    simp [T.get_set, d4]
  exact CallsTo.fn (cf := c31) (s := s0) (e := .ret) (vs := [G (acc lot bad n (C + 1))]) (by decide) rfl (hI _ _) rfl rfl
    (Runs.seq (Runs.chunk e1) (Runs.seq (Runs.chunk e2) (Runs.seq (Runs.seq (Runs.chunk e3) (Runs.block_exit r4)) (Runs.chunk e5)))) (by simp) (by simp [c31, f5])

noncomputable def I12 : CallF := addV I11 18 spec52
theorem s12 : Sound Go.Proofs.Try.prog I12 := Sound.addV follows ok s11 (by decide) (fun args v h => by
  unfold spec52 at h
  split at h
  · simp only [Option.some.injEq] at h; subst h; exact c18_ok I11 (fun _ _ => rfl) _ _
  · cases h)
noncomputable def I13 : CallF := addV I12 30 spec30
theorem s13 : Sound Go.Proofs.Try.prog I13 := Sound.addV follows ok s12 (by decide) (fun args v h => by
  unfold spec30 at h
  split at h
  · simp only [Option.some.injEq] at h; subst h; exact c30_ok I12 (fun _ _ => rfl) _ _ _
  · cases h)
noncomputable def I14 : CallF := addV I13 59 spec68
theorem s14 : Sound Go.Proofs.Try.prog I14 := Sound.addV follows ok s13 (by decide) (fun args v h => by
  unfold spec68 at h
  split at h
  · rename_i a b
    split at h
    · rename_i hn
      simp only [Option.some.injEq] at h; subst h
      have := rgcd_ok I13 (fun _ _ => rfl) a.toNat b.toNat (by omega) (by omega) e0
      rwa [Int.toNat_of_nonneg hn.1, Int.toNat_of_nonneg hn.2.2.1] at this
    · cases h
  · cases h)
noncomputable def I15 : CallF := addV I14 25 spec56
theorem s15 : Sound Go.Proofs.Try.prog I15 := Sound.addV follows ok s14 (by decide) (fun args v h => by
  unfold spec56 at h
  split at h
  · rename_i a b
    split at h
    · rename_i hn
      simp only [Option.some.injEq] at h; subst h
      exact c25_ok I14 (fun _ _ => rfl) (fun a b h h1 h2 h3 h4 => by simp [I14, AEv.addV, spec68, h1, h2, h3, h4]) a b hn.1 hn.2.1 hn.2.2.1 hn.2.2.2
    · cases h
  · cases h)
def spec29 : SpecV
  | [.int .i64 n, .int .i64 k] => if n ≤ 36 then some (G (ofZ n k)) else none
  | _ => none
noncomputable def I16 : CallF := addV I15 29 spec29
theorem s16 : Sound Go.Proofs.Try.prog I16 := Sound.addV follows ok s15 (by decide) (fun args v h => by
  unfold spec29 at h
  split at h
  · split at h
    · rename_i hn
      simp only [Option.some.injEq] at h; subst h; exact c29_ok I15 (fun _ _ => rfl) _ _ hn
    · cases h
  · cases h)
def spec31 : SpecV
  | [.int .i64 lot, .int .i64 bad, .int .i64 n, .int .i64 c] => if (0 ≤ n ∧ n ≤ lot ∧ lot ≤ 36) ∧ (0 ≤ bad ∧ bad ≤ 36) ∧ (0 ≤ c ∧ c ≤ 36) then some (G (acc lot bad n (c.toNat + 1))) else none
  | _ => none
noncomputable def I17 : CallF := addV I16 31 spec31
theorem s17 : Sound Go.Proofs.Try.prog I17 := Sound.addV follows ok s16 (by decide) (fun args v h => by
  unfold spec31 at h
  split at h
  · split at h
    · rename_i hn
      simp only [Option.some.injEq] at h; subst h
      exact c31_ok I16 (fun _ _ => rfl) (fun n k h hn => by simp [I16, AEv.addV, spec29, hn]) hn.1.1 hn.1.2.1 hn.1.2.2 hn.2.1 hn.2.2
    · cases h
  · cases h)

section
variable (h : Heap)
theorem n20 : I17 20 [] h = some (.bool true, [], false) := by
  simp [I17, I16, I15, I14, I13, I12, I11, I10, I9, I8, I7, I6, addI, AEv.addV, spec20]
theorem n18 (lot bad : Int) : I17 18 [G lot, G bad] h = some (.bool (decide (lotOk lot bad)), [], false) := by
  simp [I17, I16, I15, I14, I13, I12, AEv.addV, spec52]
theorem n30 (lot n c : Int) : I17 30 [G lot, G n, G c] h = some (.bool (decide (planOk lot n c)), [], false) := by
  simp [I17, I16, I15, I14, I13, AEv.addV, spec30]
theorem n28 (lot bad : Int) : I17 28 [G lot, G bad] h = some (if lotOk lot bad then .tup [G (ofZ lot bad), G 0] else .tup [G 0, G 2], [], false) := by
  by_cases hl : lotOk lot bad <;> simp [I17, I16, I15, I14, I13, I12, I11, I10, I9, I8, I7, I6, I5, addI, AEv.addV, spec28, hl]
theorem n29 (n k : Int) (hn : n ≤ 36) : I17 29 [G n, G k] h = some (G (ofZ n k), [], false) := by
  simp [I17, I16, AEv.addV, spec29, hn]
theorem n31 (lot bad n c : Int) (hl : lotOk lot bad) (hp : planOk lot n c) : I17 31 [G lot, G bad, G n, G c] h = some (G (acc lot bad n (c.toNat + 1)), [], false) := by
  obtain ⟨⟨a1, a2⟩, a3, a4⟩ := hl
  obtain ⟨⟨b1, b2⟩, b3, b4⟩ := hp
  have : (0 ≤ n ∧ n ≤ lot ∧ lot ≤ 36) ∧ (0 ≤ bad ∧ bad ≤ 36) ∧ (0 ≤ c ∧ c ≤ 36) := by omega
  simp only [I17, AEv.addV, if_true, AV.flats, AV.flat, Bool.and_self, spec31, if_pos this, Option.bind_some]
theorem n25 (num den : Int) (h1 : 0 ≤ num) (h2 : num < 9223372036854775808) (h3 : 0 < den) (h4 : den < 9223372036854775808) : I17 25 [G num, G den] h = some (fr num den, [], false) := by
  simp [I17, I16, I15, AEv.addV, spec56, h1, h2, h3, h4, fr]
theorem n23 (lot bad n c : Int) (hl : lot < 9223372036854775808) : I17 23 [G lot, G bad, G n, G c] h = some (if lotOk lot bad ∧ planOk lot n c then .tup [fr (acc lot bad n (c.toNat + 1)) (ofZ lot bad), G 0] else .tup [.agg [G 0, G 0], G 2], [], false) := by
  by_cases hh : lotOk lot bad ∧ planOk lot n c <;> simp [I17, I16, I15, I14, I13, I12, I11, AEv.addV, spec23, hh, hl, fr]
end

end Go.Proofs.Ytlkgpcfhpeilhaa.Ev
