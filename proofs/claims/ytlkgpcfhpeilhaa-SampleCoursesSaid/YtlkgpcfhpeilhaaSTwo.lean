/-
  What gcd answers. No condition.
-/
import Derived.Test.YtlkgpcfhpeilhaaSOne
set_option linter.unusedVariables false
set_option linter.unusedSimpArgs false
namespace Go.Proofs.Ytlkgpcfhpeilhaa.Ev
open Go Go.AEv

attribute [local simp] evFunc initS evCode runOps exec act pure1 AOpd.ev T.get T.set T.put evBin evUn Eff.app forceT_eq forceV_eq evRess evRes one keep runFP

theorem gcd_loop (I : CallF) : ∀ (b a : Nat), a < 2^63 → b < 2^63 → ∀ s h, s.get [] = G a → s.get [false] = G b → ∃ s', Runs tbl I c68_l0 s h (.exit 0, s', h) ∧ s'.get [] = G (Nat.gcd a b) := by
  intro b
  induction b using Nat.strongRecOn with
  | _ b ih =>
    intro a ha hb s h hs1 hs2
    by_cases hb0 : b = 0
    · subst hb0
      obtain ⟨s1, e1, e2⟩ : ∃ s1, evCode (kn I) c68_b0 (keep [[], [false]] s) h = some (.exit 0, s1, h) ∧ s1.get [] = G a := by
        simp [c68_b0, hs1, hs2]
      refine ⟨s1, Runs.loop_out (Runs.chunk e1) (by simp), ?_⟩
      rw [e2]; simp
    · have hpos : 0 < b := Nat.pos_of_ne_zero hb0
      obtain ⟨s1, e1, e2, e3⟩ : ∃ s1, evCode (kn I) c68_b0 (keep [[], [false]] s) h = some (.normal, s1, h) ∧ s1.get [] = G b ∧ s1.get [false] = G ((a % b : Nat) : Int) := by
        have hbz : ¬ (b : Int) = 0 := by omega
        have hmod : (a : Int).tmod (b : Int) = ((a % b : Nat) : Int) := by
          rw [Int.tmod_eq_emod_of_nonneg (by omega)]; rfl
        simp [c68_b0, hs1, hs2, hpos, hb0, hbz, Eff.isAll, hmod]
      obtain ⟨s2, r2, g2⟩ := ih (a % b) (Nat.mod_lt _ hpos) b hb (Nat.lt_trans (Nat.mod_lt _ hpos) hb) s1 h e2 e3
      refine ⟨s2, Runs.loop_next (Runs.chunk e1) r2, ?_⟩
      rw [g2, Nat.gcd_comm b (a % b), Nat.gcd_comm a b, Nat.gcd_rec b a]

theorem gcd_ok (I : CallF) (hI : ∀ a h, I 68 a h = none) (a b : Nat) (ha : a < 2^63) (hb : b < 2^63) (h : Heap) : CallsTo tbl I 68 [G a, G b] h (G (Nat.gcd a b), [], false) := by
  obtain ⟨s1, e1, e2, e3⟩ : ∃ s1, evCode (kn I) (.ops [⟨some [true, false], .move (.c (.int .i64 0)), none⟩]) (T.set (T.set .leaf [] (G a)) [false] (G b)) (frameOf h) = some (.normal, s1, frameOf h) ∧ s1.get [] = G a ∧ s1.get [false] = G b := by simp
  obtain ⟨s2, r2, g2⟩ := gcd_loop I b a ha hb s1 (frameOf h) e2 e3
  obtain ⟨s3, e4, e5⟩ : ∃ s3, evCode (kn I) (.seq (.ops [
  ⟨some [false, false, true], .move (.s []), none⟩,
  ⟨some [true, false], .move (.s [false, false, true]), none⟩])
 .ret) s2 (frameOf h) = some (.ret, s3, frameOf h) ∧ s3.get [true, false] = G (Nat.gcd a b) := by
    simp [T.get_set, g2]
  exact CallsTo.fn (cf := c68) (s := T.set (T.set .leaf [] (G a)) [false] (G b)) (e := .ret) (vs := [G (Nat.gcd a b)]) (by decide) rfl (hI _ _) rfl rfl (Runs.seq (Runs.chunk e1) (Runs.seq (Runs.block_exit r2) (Runs.chunk e4))) (by simp) (by simp [c68, e5])

end Go.Proofs.Ytlkgpcfhpeilhaa.Ev
