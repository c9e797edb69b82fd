/-
  What ways makes: the triangle of how many ways there are to choose. No condition.
-/
import Derived.Test.YtlkgpcfhpeilhaaSTwo
set_option linter.unusedVariables false
set_option linter.unusedSimpArgs false
namespace Go.Proofs.Ytlkgpcfhpeilhaa.Ev
open Go Go.AEv

attribute [local simp] evFunc initS evCode runOps exec act pure1 AOpd.ev T.get T.set T.put evBin evUn Eff.app forceT_eq forceV_eq forceL_eq evRess evRes one keep runFP

/-- How many ways there are to choose. -/
def ch : Nat → Nat → Nat
  | _, 0 => 1
  | 0, _ + 1 => 0
  | n + 1, k + 1 => ch n k + ch n (k + 1)

theorem ch_zero (n : Nat) : ch n 0 = 1 := by cases n <;> rfl
theorem ch_gt : ∀ (n k : Nat), n < k → ch n k = 0
  | 0, k + 1, _ => rfl
  | n + 1, k + 1, h => by
    rw [ch, ch_gt n k (by omega), ch_gt n (k + 1) (by omega)]
  | n, 0, h => by omega
theorem ch_step (n k : Nat) (hn : 0 < n) (hk : 0 < k) : ch n k = ch (n - 1) (k - 1) + ch (n - 1) k := by
  cases n with
  | zero => omega
  | succ n => cases k with
    | zero => omega
    | succ k => rfl
theorem ch_le : ∀ (n k : Nat), ch n k ≤ 2 ^ n
  | n, 0 => by rw [ch_zero]; exact Nat.one_le_two_pow
  | 0, k + 1 => by simp [ch]
  | n + 1, k + 1 => by
    have h1 : ∀ k, ch n k ≤ 2 ^ n := ch_le n
    have := h1 k
    have := h1 (k + 1)
    rw [ch, Nat.pow_succ]; omega

def triF (n k x : Nat) : Nat := if x / 37 < n ∨ (x / 37 = n ∧ x % 37 < k) then ch (x / 37) (x % 37) else 0
def tri (n k : Nat) : List AV := (List.range 1369).map fun x => G (triF n k x)

theorem tri_len (n k : Nat) : (tri n k).length = 1369 := by simp [tri]
theorem tri_get (n k x : Nat) (hx : x < 1369) : (tri n k)[x]? = some (G (triF n k x)) := by
  simp [tri, hx]
theorem tri_set (n k : Nat) (hn : n < 37) (hk : k < 37) : (tri n k).set (n * 37 + k) (G (ch n k)) = tri n (k + 1) := by
  apply List.ext_getElem?
  intro x
  by_cases hx : x < 1369
  · rw [List.getElem?_set, tri_get n (k + 1) x hx, tri_get n k x hx, tri_len]
    by_cases h : n * 37 + k = x
    · subst h
      have h1 : (n * 37 + k) / 37 = n := by omega
      have h2 : (n * 37 + k) % 37 = k := by omega
      have h3 : n * 37 + k < 1369 := by omega
      simp [triF, h1, h2, h3]
    · rw [if_neg h]
      have : (x / 37 = n ∧ x % 37 < k + 1) ↔ (x / 37 = n ∧ x % 37 < k) := by omega
      simp only [triF, this]
  · rw [List.getElem?_eq_none (by rw [List.length_set, tri_len]; omega), List.getElem?_eq_none (by rw [tri_len]; omega)]
theorem tri_next (n : Nat) (hn : n < 37) : tri n (n + 1) = tri (n + 1) 0 := by
  unfold tri
  apply List.map_congr_left
  intro x hx
  have hx : x < 1369 := by simpa using hx
  unfold triF
  by_cases h1 : x / 37 < n
  · rw [if_pos (.inl h1), if_pos (.inl (by omega))]
  · by_cases h2 : x / 37 = n
    · rw [if_pos (.inl (by omega) : x / 37 < n + 1 ∨ _)]
      by_cases h3 : x % 37 < n + 1
      · rw [if_pos (.inr ⟨h2, h3⟩)]
      · rw [if_neg (by omega), ch_gt _ _ (by omega)]
    · rw [if_neg (by omega), if_neg (by omega)]

/-- The frame of 'ways', its table so far. -/
def HW (h : Heap) (cs : List AV) : Heap := ⟨h.get, h.size, [.cells 0 1369 cs]⟩

theorem HW_get (h : Heap) (cs : List AV) : (HW h cs).get h.size = .cells 0 1369 cs := by simp [HW, Heap.get]
theorem HW_put (h : Heap) (cs : List AV) (o : Nat) (v : AV) (ho : o < cs.length) : (Eff.put h.size 1369 o [v]).app (HW h cs) = some (HW h (cs.set o v)) := by
  simp [HW, Heap.setOwn, putAt]; omega

theorem idx_ok (n : Nat) (len : Nat) (h : n < len) : idx (n : Int) len = some n := by
  unfold idx; rw [if_pos (by omega)]; simp

theorem ways_in (I : CallF) (h : Heap) : ∀ (j n k : Nat), k + j = n + 1 → 1 ≤ k → n < 37 → ∀ s, s.get [false] = .ptr h.size 0 1369 → s.get [true] = G n → s.get [false, false] = G k → s.get [true, true] = G n →
    ∃ s', Runs tbl I c54_l0 s (HW h (tri n k)) (.exit 2, s', HW h (tri n (n + 1))) ∧ s'.get [false] = .ptr h.size 0 1369 ∧ s'.get [true, true] = G n := by
  intro j
  induction j with
  | zero =>
    intro n k hk hk1 hn s g1 g2 g3 g4
    have hk' : k = n + 1 := by omega
    subst hk'
    obtain ⟨s1, e1, e2, e3⟩ : ∃ s1, evCode (kn I) c54_b0 (keep [[false], [true], [false, false], [true, true]] s) (HW h (tri n (n + 1))) = some (.exit 2, s1, HW h (tri n (n + 1))) ∧ s1.get [false] = .ptr h.size 0 1369 ∧ s1.get [true, true] = G n := by
      have : ¬ ((n : Int) + 1 ≤ n) := by omega
      simp [c54_b0, g1, g2, g3, g4, this]
    exact ⟨s1, Runs.loop_out (Runs.chunk e1) (by simp), e2, e3⟩
  | succ j ih =>
    intro n k hk hk1 hn s g1 g2 g3 g4
    have hkn : k ≤ n := by omega
    obtain ⟨s1, e1, e2, e3, e4, e5⟩ : ∃ s1, evCode (kn I) c54_b0 (keep [[false], [true], [false, false], [true, true]] s) (HW h (tri n k)) = some (.normal, s1, HW h (tri n (k + 1))) ∧ s1.get [false] = .ptr h.size 0 1369 ∧ s1.get [true] = G n ∧ s1.get [false, false] = G ((k + 1 : Nat) : Int) ∧ s1.get [true, true] = G n := by
      have w1 : IntKind.i64.wrap ((n : Int) - 1) = ((n - 1 : Nat) : Int) := by rw [wrap_id _ (by omega) (by omega)]; omega
      have w2 : IntKind.i64.wrap ((k : Int) - 1) = ((k - 1 : Nat) : Int) := by rw [wrap_id _ (by omega) (by omega)]; omega
      have w3 : IntKind.i64.wrap ((k : Int) + 1) = ((k + 1 : Nat) : Int) := by rw [wrap_id _ (by omega) (by omega)]; omega
      have i1 := idx_ok (n - 1) 37 (by omega)
      have i2 := idx_ok (k - 1) 37 (by omega)
      have i3 := idx_ok k 37 (by omega)
      have i4 := idx_ok n 37 (by omega)
      have t1 : (tri n k)[(n - 1) * 37 + (k - 1)]? = some (G (ch (n - 1) (k - 1))) := by
        rw [tri_get _ _ _ (by omega)]
        have h1 : ((n - 1) * 37 + (k - 1)) / 37 = n - 1 := by omega
        have h2 : ((n - 1) * 37 + (k - 1)) % 37 = k - 1 := by omega
        simp only [triF, h1, h2]
        rw [if_pos (.inl (by omega))]
      have t2 : (tri n k)[(n - 1) * 37 + k]? = some (G (ch (n - 1) k)) := by
        rw [tri_get _ _ _ (by omega)]
        have h1 : ((n - 1) * 37 + k) / 37 = n - 1 := by omega
        have h2 : ((n - 1) * 37 + k) % 37 = k := by omega
        simp only [triF, h1, h2]
        rw [if_pos (.inl (by omega))]
      have w4 : IntKind.i64.wrap ((ch (n - 1) (k - 1) : Int) + (ch (n - 1) k : Int)) = (ch n k : Int) := by
        have a1 := ch_le (n - 1) (k - 1)
        have a2 := ch_le (n - 1) k
        have a3 : 2 ^ (n - 1) ≤ 2 ^ 36 := Nat.pow_le_pow_right (by omega) (by omega)
        rw [wrap_id _ (by omega) (by omega), ch_step n k (by omega) (by omega)]; omega
      have hg := HW_get h (tri n k)
      have hp : Eff.app (Eff.put h.size 1369 (n * 37 + k) [G (ch n k)]) (HW h (tri n k)) = some (HW h (tri n (k + 1))) := by
        rw [HW_put _ _ _ _ (by rw [tri_len]; omega), tri_set n k hn (by omega)]
      have hle : (k : Int) ≤ n := by omega
      simp [-Eff.app, app_none, c54_b0, g1, g2, g3, g4, hle, w1, w2, w3, w4, i1, i2, i3, i4, t1, t2, hg, hp, loadA, takeA, AV.cells, Eff.isAll, okPair, Eff.commutes, Eff.isNone, Eff.spares]
    obtain ⟨s2, r2, f1, f2⟩ := ih n (k + 1) (by omega) (by omega) hn s1 e2 e3 e4 e5
    exact ⟨s2, Runs.loop_next (Runs.chunk e1) r2, f1, f2⟩


theorem ways_out (I : CallF) (h : Heap) : ∀ (j n : Nat), n + j = 37 → ∀ s, s.get [false] = .ptr h.size 0 1369 → s.get [true, true] = G n →
    ∃ s', Runs tbl I c54_l1 s (HW h (tri n 0)) (.exit 0, s', HW h (tri 37 0)) ∧ s'.get [false] = .ptr h.size 0 1369 := by
  intro j
  induction j with
  | zero =>
    intro n hn s g1 g2
    have : n = 37 := by omega
    subst this
    obtain ⟨s1, e1, e2⟩ : ∃ s1, evCode (kn I) c54_b1 (keep [[false], [true, true]] s) (HW h (tri 37 0)) = some (.exit 0, s1, HW h (tri 37 0)) ∧ s1.get [false] = .ptr h.size 0 1369 := by
      simp [c54_b1, g1, g2]
    exact ⟨s1, Runs.loop_out (Runs.chunk e1) (by simp), e2⟩
  | succ j ih =>
    intro n hn s g1 g2
    have hn' : n < 37 := by omega
    -- up to the inner loop
    let A : CCode := .ops [⟨some [false, false, false], .bin .lss (.s [true, true]) (.c (.int .i64 37)), none⟩]
    let B : CCode := .cond (.s [false, false, false]) .skip (.exit 0)
    let C : CCode := .ops [⟨some [true, false, false], .move (.s [true, true]), none⟩, ⟨some [true], .move (.s [true, false, false]), none⟩]
    let D : CCode := .ops [
  ⟨some [false, true, false], .move (.s [false]), none⟩,
  ⟨some [true, true, false], .move (.s [true]), none⟩,
  ⟨some [false, false, true], .nilCheck (.s [false, true, false]), none⟩,
  ⟨some [true, false, true], .idxArr 37 37 (.s [false, false, true]) (.s [true, true, false]), none⟩,
  ⟨some [false, true, true], .idxArr 37 1 (.s [true, false, true]) (.c (.int .i64 0)), none⟩,
  ⟨none, .store 1 (.s [false, true, true]) (.c (.int .i64 1)), none⟩]
    let E : CCode := .ops [⟨some [false, false], .move (.c (.int .i64 1)), none⟩]
    let F : CCode := .ops [
  ⟨some [false, false, true, true, false], .bin .add (.s [true, true]) (.c (.int .i64 1)), none⟩,
  ⟨some [true, true], .move (.s [false, false, true, true, false]), none⟩]
    have i1 := idx_ok n 37 hn'
    have i0 := idx_ok 0 37 (by omega)
    have w3 : IntKind.i64.wrap ((n : Int) + 1) = ((n + 1 : Nat) : Int) := by rw [wrap_id _ (by omega) (by omega)]; omega
    have hp : Eff.app (Eff.put h.size 1369 (n * 37) [G 1]) (HW h (tri n 0)) = some (HW h (tri n 1)) := by
      rw [HW_put _ _ _ _ (by rw [tri_len]; omega)]
      have := tri_set n 0 hn' (by omega)
      rw [ch_zero] at this
      exact congrArg (fun x => some (HW h x)) this
    have hlt : (n : Int) < 37 := by omega
    obtain ⟨s0, e0, z1, z2⟩ : ∃ s1, evCode (kn I) (.seq A B) (keep [[false], [true, true]] s) (HW h (tri n 0)) = some (.normal, s1, HW h (tri n 0)) ∧ s1.get [false] = .ptr h.size 0 1369 ∧ s1.get [true, true] = G n := by
      simp [-Eff.app, app_none, A, B, g1, g2, hlt]
    obtain ⟨sC, eC, y1, y2, y3⟩ : ∃ s1, evCode (kn I) C s0 (HW h (tri n 0)) = some (.normal, s1, HW h (tri n 0)) ∧ s1.get [false] = .ptr h.size 0 1369 ∧ s1.get [true] = G n ∧ s1.get [true, true] = G n := by
      simp [-Eff.app, app_none, C, T.get_set, z1, z2]
    obtain ⟨sD, eD, x1, x2, x3⟩ : ∃ s1, evCode (kn I) D sC (HW h (tri n 0)) = some (.normal, s1, HW h (tri n 1)) ∧ s1.get [false] = .ptr h.size 0 1369 ∧ s1.get [true] = G n ∧ s1.get [true, true] = G n := by
      have i0' : idx 0 37 = some 0 := rfl
      simp [-Eff.app, app_none, D, T.get_set, y1, y2, y3, i1, i0', hp, AV.cells]
    obtain ⟨s1, eE, a1, a2, a3, a4⟩ : ∃ s1, evCode (kn I) E sD (HW h (tri n 1)) = some (.normal, s1, HW h (tri n 1)) ∧ s1.get [false] = .ptr h.size 0 1369 ∧ s1.get [true] = G n ∧ s1.get [false, false] = G 1 ∧ s1.get [true, true] = G n := by
      simp [-Eff.app, app_none, E, T.get_set, x1, x2, x3]
    obtain ⟨s2, r2, b1, b2⟩ := ways_in I h n n 1 (by omega) (by omega) hn' s1 a1 a2 a3 a4
    rw [tri_next n hn'] at r2
    obtain ⟨s3, e3, c1, c2⟩ : ∃ s3, evCode (kn I) F s2 (HW h (tri (n + 1) 0)) = some (.normal, s3, HW h (tri (n + 1) 0)) ∧ s3.get [false] = .ptr h.size 0 1369 ∧ s3.get [true, true] = G ((n + 1 : Nat) : Int) := by
      simp [-Eff.app, app_none, F, T.get_set, b1, b2, w3]
    obtain ⟨s4, r4, d1⟩ := ih (n + 1) (by omega) s3 c1 c2
    refine ⟨s4, Runs.loop_next ?_ r4, d1⟩
    show Runs tbl I (.seq A (.seq B (.seq (.block 1 (.seq C (.seq D (.seq E (.block 2 c54_l0))))) F))) _ _ _
    exact Runs.assoc (Runs.seq (Runs.chunk e0) (Runs.seq (Runs.block_out (Runs.seq (Runs.chunk eC) (Runs.seq (Runs.chunk eD) (Runs.seq (Runs.chunk eE) (Runs.block_exit r2)))) (by simp)) (Runs.chunk e3)))


theorem ways_ok (I : CallF) (hI : ∀ a h, I 54 a h = none) (h : Heap) : CallsTo tbl I 54 [] h (.ptr h.size 0 1369, [.cells 0 1369 (tri 37 0)], false) := by
  have h0 : tri 0 0 = List.replicate 1369 (G 0) := by
    apply List.ext_getElem?
    intro x
    by_cases hx : x < 1369
    · rw [tri_get _ _ _ hx]; simp [-List.reduceReplicate, triF, hx]
    · rw [List.getElem?_eq_none (by rw [tri_len]; omega), List.getElem?_eq_none (by rw [List.length_replicate]; omega)]
  obtain ⟨s1, e1, a1⟩ : ∃ s1, evCode (kn I) (.ops [⟨some [], .move (.c (.nilp)), none⟩]) .leaf (frameOf h) = some (.normal, s1, frameOf h) ∧ s1 = T.set .leaf [] .nilp := by simp
  subst a1
  obtain ⟨s2, e2, b1⟩ : ∃ s2, evCode (kn I) (.ops [
  ⟨some [true, false], .build (List.replicate 1369 (.int .i64 0)) [], none⟩,
  ⟨some [false, true], .box none (.s [true, false]), none⟩,
  ⟨some [false], .move (.s [false, true]), none⟩]) (T.set .leaf [] .nilp) (frameOf h) = some (.normal, s2, HW h (tri 0 0)) ∧ s2.get [false] = .ptr h.size 0 1369 := by
    rw [h0]
    simp [-List.reduceReplicate, fillA, AV.cells, mk, frameOf, Heap.size, HW]
  obtain ⟨s3, e3, c1, c2⟩ : ∃ s3, evCode (kn I) (.ops [⟨some [true, true], .move (.c (.int .i64 0)), none⟩]) s2 (HW h (tri 0 0)) = some (.normal, s3, HW h (tri 0 0)) ∧ s3.get [false] = .ptr h.size 0 1369 ∧ s3.get [true, true] = G ((0 : Nat) : Int) := by
    simp [-Eff.app, app_none, T.get_set, b1]
  obtain ⟨s4, r4, d1⟩ := ways_out I h 37 0 (by omega) s3 c1 c2
  obtain ⟨s5, e5, f1⟩ : ∃ s5, evCode (kn I) (.seq (.ops [
  ⟨some [true, false, true, true, false], .move (.s [false]), none⟩,
  ⟨some [], .move (.s [true, false, true, true, false]), none⟩])
 .ret) s4 (HW h (tri 37 0)) = some (.ret, s5, HW h (tri 37 0)) ∧ s5.get [] = .ptr h.size 0 1369 := by
    simp [-Eff.app, app_none, T.get_set, d1]
  exact CallsTo.fn (cf := c54) (s := .leaf) (e := .ret) (vs := [.ptr h.size 0 1369]) (by decide) rfl (hI _ _) rfl rfl
    (Runs.seq (Runs.chunk e1) (Runs.seq (Runs.chunk e2) (Runs.seq (Runs.seq (Runs.chunk e3) (Runs.block_exit r4)) (Runs.chunk e5)))) (by simp) (by simp [-List.reduceReplicate, c54, f1])

def spec54 : SpecF := fun args h => match args with
  | [] => some (.ptr h.size 0 1369, [.cells 0 1369 (tri 37 0)], false)
  | _ => none

end Go.Proofs.Ytlkgpcfhpeilhaa.Ev
