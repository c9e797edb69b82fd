/-
  What isLot, mod, (*triangle).of and Ways answer, and that what is known of calls is sound. No condition.
-/
import Derived.Test.YtlkgpcfhpeilhaaSWays
import Derived.Test.YtlkgpcfhpeilhaaSCheck
set_option linter.unusedVariables false
set_option linter.unusedSimpArgs false
namespace Go.Proofs.Ytlkgpcfhpeilhaa.Ev
open Go Go.AEv

attribute [local simp] evFunc initS evCode runOps exec act pure1 AOpd.ev T.get T.set T.put evBin evUn forceT_eq forceV_eq forceL_eq evRess evRes one keep runFP app_none AV.flats AV.flat

abbrev K67 (I : CallF) : Prop := ∀ (n lo hi : Int) (h : Heap), I 67 [G n, G lo, G hi] h = some (.bool (decide (lo ≤ n ∧ n ≤ hi)), [], false)

/-! ### within, ways -/
def spec67 : SpecV
  | [.int .i64 n, .int .i64 lo, .int .i64 hi] => some (.bool (decide (lo ≤ n ∧ n ≤ hi)))
  | _ => none

def I1 : CallF := addI (addV noIntr 67 spec67) 54 spec54

theorem s67 : Sound Go.Proofs.Try.prog (addV noIntr 67 spec67) := Sound.addV follows ok Sound.empty (by decide) (fun args v h => by
  unfold spec67 at h
  split at h
  · simp only [Option.some.injEq] at h; subst h; exact within_ok noIntr (fun _ _ => rfl) _ _ _ _
  · cases h)

theorem s1 : Sound Go.Proofs.Try.prog I1 := Sound.add follows ok s67 (by decide) (fun args h x e => by
  unfold spec54 at e
  split at e
  · simp only [Option.some.injEq] at e; subst e; exact ways_ok _ (fun _ _ => rfl) h
  · cases e)

theorem k67 : K67 I1 := fun n lo hi h => by simp [I1, addI, addV, spec67]

/-! ### isLot, mod, of -/
def lotOk (lot bad : Int) : Prop := (1 ≤ lot ∧ lot ≤ 36) ∧ 0 ≤ bad ∧ bad ≤ lot
instance (lot bad : Int) : Decidable (lotOk lot bad) := by unfold lotOk; infer_instance

def spec52 : SpecV
  | [.int .i64 lot, .int .i64 bad] => some (.bool (decide (lotOk lot bad)))
  | _ => none

theorem c52_ok (I : CallF) (hI : ∀ a h, I 52 a h = none) (k67 : K67 I) (lot bad : Int) : CallsTo tbl I 52 [G lot, G bad] e0 (.bool (decide (lotOk lot bad)), [], false) := by
  refine CallsTo.plain (cf := c52) (h' := frameOf e0) (by decide) rfl (hI _ _) rfl rfl ?_
  by_cases h1 : 1 ≤ lot ∧ lot ≤ 36
  · simp [c52, kn, k67, h1, lotOk]
  · simp [c52, kn, k67, h1, lotOk]

def spec24 : SpecV
  | [.int .i64 x, .int .i64 n] => if 0 < n ∧ n < 9223372036854775808 then some (G ((x % 18446744073709551616) % n)) else none
  | _ => none

theorem wrap_u64 (n : Int) : IntKind.u64.wrap n = n % 18446744073709551616 := by
  unfold IntKind.wrap IntKind.bits IntKind.signed
  simp

theorem c24_ok (I : CallF) (hI : ∀ a h, I 24 a h = none) (x n : Int) (h1 : 0 < n) (h2 : n < 9223372036854775808) : CallsTo tbl I 24 [G x, G n] e0 (G ((x % 18446744073709551616) % n), [], false) := by
  refine CallsTo.plain (cf := c24) (h' := frameOf e0) (by decide) rfl (hI _ _) rfl rfl ?_
  have w : n % 18446744073709551616 = n := Int.emod_eq_of_lt (by omega) (by omega)
  have hz : ¬ n = 0 := by omega
  have hm : (x % 18446744073709551616).tmod n = (x % 18446744073709551616) % n := Int.tmod_eq_emod_of_nonneg (Int.emod_nonneg _ (by decide))
  have a1 := Int.emod_nonneg (x % 18446744073709551616) hz
  have a2 := Int.emod_lt_of_pos (x % 18446744073709551616) h1
  simp [c24, wrap_u64, w, hz, hm, wrap_id _ (show -9223372036854775808 ≤ (x % 18446744073709551616) % n by omega) (by omega)]

def spec58 : SpecF := fun args h => match args with
  | [.ptr b 0 1369, .int .i64 n, .int .i64 k] =>
    if 0 ≤ k ∧ k ≤ n then
      (if n < 37 then (match h.get b with
        | .cells 0 1369 cs => ((cs[n.toNat * 37 + k.toNat]?).bind fun v => if v.flat then some (v, [], false) else none)
        | _ => none) else none)
    else some (G 0, [], false)
  | _ => none

theorem c58_ok (I : CallF) (hI : ∀ a h, I 58 a h = none) (k67 : K67 I) (args : List AV) (h : Heap) (x : AV × List AObj × Bool) (e : spec58 args h = some x) : CallsTo tbl I 58 args h x := by
  unfold spec58 at e
  split at e
  · rename_i b n k
    split at e
    · rename_i hk
      split at e
      · rename_i hn
        split at e
        · rename_i cs hg
          simp only [Option.bind_eq_some_iff] at e
          obtain ⟨v, e1, e2⟩ := e
          split at e2
          · rename_i hv
            simp only [Option.some.injEq] at e2; subst e2
            refine CallsTo.plain (cf := c58) (h' := frameOf h) (by decide) rfl (hI _ _) rfl hv ?_
            have i1 : idx n 37 = some n.toNat := by unfold idx; rw [if_pos (by omega)]
            have i2 : idx k 37 = some k.toNat := by unfold idx; rw [if_pos (by omega)]
            have hg' : (frameOf h).get b = .cells 0 1369 cs := by rw [frame_get]; exact hg
            simp [c58, kn, k67, hk, i1, i2, hg', loadA, takeA, e1]
          · cases e2
        · cases e
      · cases e
    · rename_i hk
      simp only [Option.some.injEq] at e; subst e
      refine CallsTo.plain (cf := c58) (h' := frameOf h) (by decide) rfl (hI _ _) rfl rfl ?_
      simp [c58, kn, k67, hk]
  · cases e

def I2 : CallF := addV I1 52 spec52
def I3 : CallF := addV I2 24 spec24
def I4 : CallF := addI I3 58 spec58

theorem s2 : Sound Go.Proofs.Try.prog I2 := Sound.addV follows ok s1 (by decide) (fun args v h => by
  unfold spec52 at h
  split at h
  · simp only [Option.some.injEq] at h; subst h; exact c52_ok I1 (fun _ _ => rfl) k67 _ _
  · cases h)
theorem s3 : Sound Go.Proofs.Try.prog I3 := Sound.addV follows ok s2 (by decide) (fun args v h => by
  unfold spec24 at h
  split at h
  · split at h
    · rename_i hn
      simp only [Option.some.injEq] at h; subst h; exact c24_ok I2 (fun _ _ => rfl) _ _ hn.1 hn.2
    · cases h
  · cases h)
theorem s4 : Sound Go.Proofs.Try.prog I4 := Sound.add follows ok s3 (by decide) (fun args h x e => c58_ok I3 (fun _ _ => rfl) (fun n lo hi h => k67 n lo hi h) args h x e)

/-- Of n choose k; 0, if this makes no sense. -/
def ofZ (n k : Int) : Nat := if 0 ≤ k ∧ k ≤ n then ch n.toNat k.toNat else 0

def isTri : AObj → Prop := (· = .cells 0 1369 (tri 37 0))

theorem spec58_tri {b : Nat} {n k : Int} {h : Heap} (hb : h.get b = .cells 0 1369 (tri 37 0)) (hn : n ≤ 36) : spec58 [.ptr b 0 1369, G n, G k] h = some (G (ofZ n k), [], false) := by
  unfold spec58 ofZ
  simp only
  split
  · rename_i hk
    rw [if_pos (by omega), hb]
    simp only
    rw [tri_get _ _ _ (by omega)]
    have h1 : (n.toNat * 37 + k.toNat) / 37 = n.toNat := by omega
    have h2 : (n.toNat * 37 + k.toNat) % 37 = k.toNat := by omega
    simp only [triF, h1, h2]
    rw [if_pos (.inl (by omega))]
    simp
  · simp

/-! ### Ways -/
def spec28 : SpecV
  | [.int .i64 lot, .int .i64 bad] => some (if lotOk lot bad then .tup [G (ofZ lot bad), G 0] else .tup [G 0, G 2])
  | _ => none

theorem c28_ok (I : CallF) (hI : ∀ a h, I 28 a h = none) (k52 : ∀ lot bad h, I 52 [G lot, G bad] h = some (.bool (decide (lotOk lot bad)), [], false)) (k54 : ∀ h : Heap, I 54 [] h = some (.ptr h.size 0 1369, [.cells 0 1369 (tri 37 0)], false))
    (k58 : ∀ args h, I 58 args h = spec58 args h) (lot bad : Int) : CallsTo tbl I 28 [G lot, G bad] e0 (if lotOk lot bad then .tup [G (ofZ lot bad), G 0] else .tup [G 0, G 2], [], false) := by
  by_cases h1 : lotOk lot bad
  · rw [if_pos h1]
    refine CallsTo.plain (cf := c28) (h' := HW e0 (tri 37 0)) (by decide) rfl (hI _ _) rfl rfl ?_
    have hg := spec58_tri (h := HW e0 (tri 37 0)) (b := 0) (n := lot) (k := bad) (HW_get e0 _) h1.1.2
    have hgrow : Eff.app (.grow [.cells 0 1369 (tri 37 0)]) (frameOf e0) = some (HW e0 (tri 37 0)) := rfl
    have hsz : (frameOf e0).size = 0 := rfl
    simp [c28, kn, k52, k54, k58, h1, hg, hgrow, hsz]
  · rw [if_neg h1]
    refine CallsTo.plain (cf := c28) (h' := frameOf e0) (by decide) rfl (hI _ _) rfl rfl ?_
    simp [c28, kn, k52, h1]

def I5 : CallF := addV I4 28 spec28
theorem s5 : Sound Go.Proofs.Try.prog I5 := Sound.addV follows ok s4 (by decide) (fun args v h => by
  unfold spec28 at h
  split at h
  · simp only [Option.some.injEq] at h; subst h
    exact c28_ok I4 (fun _ _ => rfl) (fun lot bad h => by simp [I4, I3, I2, addI, addV, spec52]) (fun h => rfl) (fun args h => rfl) _ _
  · cases h)

end Go.Proofs.Ytlkgpcfhpeilhaa.Ev
