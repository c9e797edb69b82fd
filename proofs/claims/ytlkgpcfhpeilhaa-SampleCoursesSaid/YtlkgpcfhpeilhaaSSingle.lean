/-
  What (*triangle).single and Single answer. No condition.
-/
import Derived.Test.YtlkgpcfhpeilhaaSFrac
set_option linter.unusedVariables false
set_option linter.unusedSimpArgs false
namespace Go.Proofs.Ytlkgpcfhpeilhaa.Ev
open Go Go.AEv

attribute [local simp] evFunc initS evOps_c evTrim_c evSkip_c evExit_c evRet_c evSeq_c evCond_c evBlock_c evDraw_c runOps_n runOps_c exec_n exec_g pure1_c act AOpd.ev T.get T.set T.put evBin evUn forceT_eq forceV_eq forceL_eq evRess evRes one keep runFP_n runFP_c app_none AV.flats AV.flat


theorem c57_ok (I : CallF) (hI : ∀ a h, I 57 a h = none) (k58 : ∀ args h, I 58 args h = spec58 args h) {b : Nat} {lot bad n c : Int} {h : Heap} (hb : h.get b = .cells 0 1369 (tri 37 0)) (h0 : 0 ≤ n) (h1 : n ≤ lot) (h2 : lot ≤ 36) (hbad : 0 ≤ bad ∧ bad ≤ 36) (hc : 0 ≤ c ∧ c ≤ 36) :
    CallsTo tbl I 57 [.ptr b 0 1369, G lot, G bad, G n, G c] h (G (acc lot bad n (c.toNat + 1)), [], false) := by
  have hb' : (frameOf h).get b = .cells 0 1369 (tri 37 0) := by rw [frame_get]; exact hb
  let s0 : T := T.set (T.set (T.set (T.set (T.set .leaf [] (.ptr b 0 1369)) [false] (G lot)) [true] (G bad)) [false, false] (G n)) [true, false] (G c)
  obtain ⟨s1, e1, a0, a1, a2, a3, a4⟩ : ∃ s1, evCode (kn I) (.ops [⟨some [true, true, false], .move (.c (.int .i64 0)), none⟩]) s0 (frameOf h) = some (.normal, s1, frameOf h) ∧ s1.get [] = .ptr b 0 1369 ∧ s1.get [false] = G lot ∧ s1.get [true] = G bad ∧ s1.get [false, false] = G n ∧ s1.get [true, false] = G c := by
    simp [s0]
  obtain ⟨s2, e2, b0, b1, b2, b3, b4, b5⟩ : ∃ s2, evCode (kn I) (.ops [⟨some [false, false, true], .move (.c (.int .i64 0)), none⟩]) s1 (frameOf h) = some (.normal, s2, frameOf h) ∧ s2.get [] = .ptr b 0 1369 ∧ s2.get [false] = G lot ∧ s2.get [true] = G bad ∧ s2.get [false, false] = G n ∧ s2.get [true, false] = G c ∧ s2.get [false, false, true] = G 0 := by
    simp [T.get_set, a0, a1, a2, a3, a4]
  have w : IntKind.i64.wrap (c + 1) = ((c.toNat + 1 : Nat) : Int) := by rw [wrap_id _ (by omega) (by omega)]; omega
  obtain ⟨s3, e3, c0, c1, c2, c3, c4, c5, c6⟩ : ∃ s3, evCode (kn I) (.ops [
  ⟨some [false, true, true], .move (.s [true, false]), none⟩,
  ⟨some [true, true, true], .bin .add (.s [false, true, true]) (.c (.int .i64 1)), none⟩,
  ⟨some [false, false, false, false], .move (.c (.int .i64 0)), none⟩]) s2 (frameOf h) = some (.normal, s3, frameOf h) ∧ s3.get [] = .ptr b 0 1369 ∧ s3.get [false] = G lot ∧ s3.get [true] = G bad ∧ s3.get [false, false] = G n ∧ s3.get [false, false, true] = G 0 ∧ s3.get [true, true, true] = G ((c.toNat + 1 : Nat) : Int) ∧ s3.get [false, false, false, false] = G 0 := by
    simp [T.get_set, b0, b1, b2, b3, b4, b5, w]
  obtain ⟨s4, r4, d4⟩ := single_loop I k58 hb' h0 h1 h2 hbad (c.toNat + 1) (by omega) (c.toNat + 1) 0 (by omega) s3 c0 c1 c2 c3 c4 c5 c6
  obtain ⟨s5, e5, f5⟩ : ∃ s5, evCode (kn I) (.seq (.ops [
  ⟨some [true, true, false, false, false], .move (.s [false, false, true]), none⟩,
  ⟨some [true, true, false], .move (.s [true, true, false, false, false]), none⟩])
 .ret) s4 (frameOf h) = some (.ret, s5, frameOf h) ∧ s5.get [true, true, false] = G (acc lot bad n (c.toNat + 1)) := by
    simp [T.get_set, d4]
  exact CallsTo.fn (cf := c57) (s := s0) (e := .ret) (vs := [G (acc lot bad n (c.toNat + 1))]) (by decide) rfl (hI _ _) rfl rfl
    (Runs.seq (Runs.chunk e1) (Runs.seq (Runs.chunk e2) (Runs.seq (Runs.seq (Runs.chunk e3) (Runs.block_exit r4)) (Runs.chunk e5)))) (by simp) (by simp [c57, f5])

open Classical in
noncomputable def spec57' : SpecF := fun args h => match args with
  | [.ptr b 0 1369, .int .i64 lot, .int .i64 bad, .int .i64 n, .int .i64 c] =>
    if h.get b = .cells 0 1369 (tri 37 0) ∧ 0 ≤ n ∧ n ≤ lot ∧ lot ≤ 36 ∧ 0 ≤ bad ∧ bad ≤ 36 ∧ 0 ≤ c ∧ c ≤ 36 then some (G (acc lot bad n (c.toNat + 1)), [], false) else none
  | _ => none


noncomputable def I10 : CallF := addI I9 57 spec57'
theorem s10 : Sound Go.Proofs.Try.prog I10 := Sound.add follows ok s9 (by decide) (fun args h x e => by
  unfold spec57' at e
  split at e
  · split at e
    · rename_i hh
      obtain ⟨hb, h0, h1, h2, h3, h4, h5, h6⟩ := hh
      simp only [Option.some.injEq] at e; subst e
      exact c57_ok I9 (fun _ _ => rfl) (fun args h => rfl) hb h0 h1 h2 ⟨h3, h4⟩ ⟨h5, h6⟩
    · cases e
  · cases e)

theorem ch_pos : ∀ (n k : Nat), k ≤ n → 0 < ch n k
  | n, 0, _ => by rw [ch_zero]; omega
  | n + 1, k + 1, h => by
    rw [ch]
    have := ch_pos n k (by omega)
    omega

theorem ofZ_pos {n k : Int} (h0 : 0 ≤ k) (h1 : k ≤ n) : 0 < ofZ n k := by
  unfold ofZ; rw [if_pos ⟨h0, h1⟩]; exact ch_pos _ _ (by omega)

def spec23 : SpecV
  | [.int .i64 lot, .int .i64 bad, .int .i64 n, .int .i64 c] =>
    if lotOk lot bad ∧ planOk lot n c then some (.tup [fr (acc lot bad n (c.toNat + 1)) (ofZ lot bad), G 0])
    else if lot < 9223372036854775808 then some (.tup [.agg [G 0, G 0], G 2]) else none
  | _ => none

structure K23 (I : CallF) : Prop where
  k52 : ∀ lot bad h, I 52 [G lot, G bad] h = some (.bool (decide (lotOk lot bad)), [], false)
  k60 : ∀ lot n c h, lot < 9223372036854775808 → I 60 [G lot, G n, G c] h = some (.bool (decide (planOk lot n c)), [], false)
  k54 : ∀ h : Heap, I 54 [] h = some (.ptr h.size 0 1369, [.cells 0 1369 (tri 37 0)], false)
  k58 : ∀ (b : Nat) (n k : Int) (h : Heap), h.get b = .cells 0 1369 (tri 37 0) → n ≤ 36 → I 58 [.ptr b 0 1369, G n, G k] h = some (G (ofZ n k), [], false)
  k57 : ∀ (b : Nat) (lot bad n c : Int) (h : Heap), h.get b = .cells 0 1369 (tri 37 0) → 0 ≤ n → n ≤ lot → lot ≤ 36 → 0 ≤ bad → bad ≤ 36 → 0 ≤ c → c ≤ 36 → I 57 [.ptr b 0 1369, G lot, G bad, G n, G c] h = some (G (acc lot bad n (c.toNat + 1)), [], false)
  k56 : ∀ num den h, 0 ≤ num → num < 9223372036854775808 → 0 < den → den < 9223372036854775808 → I 56 [G num, G den] h = some (fr num den, [], false)

theorem k10 : K23 I10 where
  k52 lot bad h := by simp [I10, I9, I8, I7, I6, I5, I4, I3, I2, addI, addV, spec52]
  k60 lot n c h hl := by simp [I10, I9, addI, addV, spec60, hl]
  k54 h := rfl
  k58 b n k h hb hn := spec58_tri hb hn
  k57 b lot bad n c h hb h0 h1 h2 h3 h4 h5 h6 := by
    have e : I10 57 [.ptr b 0 1369, G lot, G bad, G n, G c] h = spec57' [.ptr b 0 1369, G lot, G bad, G n, G c] h := by simp only [I10, addI, if_true]
    rw [e]
    unfold spec57'
    simp only
    rw [if_pos ⟨hb, h0, h1, h2, h3, h4, h5, h6⟩]
  k56 num den h h1 h2 h3 h4 := by simp [I10, I9, I8, addI, addV, spec56, h1, h2, h3, h4, fr]

theorem c23_ok (I : CallF) (hI : ∀ a h, I 23 a h = none) (K : K23 I) (lot bad n c : Int) (v : AV) (hv : spec23 [G lot, G bad, G n, G c] = some v) : CallsTo tbl I 23 [G lot, G bad, G n, G c] e0 (v, [], false) := by
  unfold spec23 at hv
  simp only at hv
  by_cases h1 : lotOk lot bad
  · by_cases h2 : planOk lot n c
    · rw [if_pos ⟨h1, h2⟩] at hv
      simp only [Option.some.injEq] at hv; subst hv
      obtain ⟨⟨a1, a2⟩, a3, a4⟩ := h1
      obtain ⟨⟨b1, b2⟩, b3, b4⟩ := h2
      have hp := ofZ_pos a3 a4
      have hl := ofZ_le lot bad 36 (by omega)
      have hacc := acc_le lot bad n (by omega) b2 a2 (c.toNat + 1)
      have hacc2 : (c.toNat + 1) * 68719476736 ≤ 37 * 68719476736 := Nat.mul_le_mul_right _ (by omega)
      have q1 := fun h => K.k52 lot bad h
      have q2 := fun h => K.k60 lot n c h (by omega)
      have q3 := K.k54
      have q4 := fun h hb => K.k58 1 lot bad h hb (by omega)
      have q5 := fun h hb => K.k57 1 lot bad n c h hb (by omega) b2 a2 a3 (by omega) b3 (by omega)
      have q6 := fun h => K.k56 (acc lot bad n (c.toNat + 1)) (ofZ lot bad) h (by omega) (by omega) (by omega) (by omega)
      have d1 : lotOk lot bad := ⟨⟨a1, a2⟩, a3, a4⟩
      have d2 : planOk lot n c := ⟨⟨b1, b2⟩, b3, b4⟩
      generalize hF : fr (acc lot bad n (c.toNat + 1)) (ofZ lot bad) = F at *
      obtain ⟨x, y, rfl⟩ : ∃ x y, F = .agg [G x, G y] := ⟨_, _, hF.symm⟩
      refine CallsTo.plain (cf := c23) (h' := ⟨e0.get, 0, [.cells 0 2 [G x, G y], .cells 0 1369 (tri 37 0)]⟩) (by decide) rfl (hI _ _) rfl rfl ?_
      simp [c23, kn, q1, q2, q3, q4, q5, q6, d1, d2, mk, frameOf, Heap.size, e0, Eff.app, Heap.setOwn, Heap.get, putAt, fillA, AV.cells, loadA, takeA, Eff.isAll]
    · rw [if_neg (by simp [h2])] at hv
      split at hv
      · rename_i hl
        simp only [Option.some.injEq] at hv; subst hv
        have q1 := fun h => K.k52 lot bad h
        have q2 := fun h => K.k60 lot n c h hl
        refine CallsTo.plain (cf := c23) (h' := ⟨e0.get, 0, [.cells 0 2 [G 0, G 0]]⟩) (by decide) rfl (hI _ _) rfl rfl ?_
        simp [c23, kn, q1, q2, h1, h2, mk, frameOf, Heap.size, e0, Eff.app, Heap.setOwn, Heap.get, putAt, fillA, AV.cells, loadA, takeA, Eff.isAll]
      · cases hv
  · rw [if_neg (by simp [h1])] at hv
    split at hv
    · rename_i hl
      simp only [Option.some.injEq] at hv; subst hv
      have q1 := fun h => K.k52 lot bad h
      refine CallsTo.plain (cf := c23) (h' := ⟨e0.get, 0, [.cells 0 2 [G 0, G 0]]⟩) (by decide) rfl (hI _ _) rfl rfl ?_
      simp [c23, kn, q1, h1, mk, frameOf, Heap.size, e0, Eff.app, Heap.setOwn, Heap.get, putAt, fillA, AV.cells, loadA, takeA, Eff.isAll]
    · cases hv

noncomputable def I11 : CallF := addV I10 23 spec23
theorem s11 : Sound Go.Proofs.Try.prog I11 := Sound.addV follows ok s10 (by decide) (fun args v h => by
  have h' := h
  unfold spec23 at h
  split at h
  · exact c23_ok I10 (fun _ _ => rfl) k10 _ _ _ _ v h'
  · cases h)

end Go.Proofs.Ytlkgpcfhpeilhaa.Ev
