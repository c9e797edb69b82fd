/-
  SamplePascal answers true at any two integers, as the evaluator runs it. No condition.
-/
import Derived.Test.YtlkgpcfhpeilhaaSBase
import Derived.Test.YtlkgpcfhpeilhaaSAwake
set_option linter.unusedVariables false
set_option linter.unusedSimpArgs false
namespace Go.Proofs.Ytlkgpcfhpeilhaa.Ev
open Go Go.AEv

attribute [local simp] evFunc initS evOps_c evTrim_c evSkip_c evExit_c evRet_c evSeq_c evCond_c evBlock_c evDraw_c runOps_n runOps_c exec_n exec_g pure1_c act AOpd.ev T.get T.set T.put evBin evUn forceT_eq forceV_eq forceL_eq evRess evRes one keep runFP_n runFP_c app_none AV.flats AV.flat

def spec20 : SpecV
  | [] => some (.bool true)
  | _ => none

theorem isTrue0_eq {x : Option (AV × List AObj × Bool)} (h : isTrue0 x = true) : x = some (.bool true, [], false) := by
  unfold isTrue0 at h
  split at h
  · rfl
  · cases h

theorem sAw : Sound Go.Proofs.Try.prog (addI noIntr 54 spec54) := Sound.add follows ok Sound.empty (by decide) (fun args h x e => by
  unfold spec54 at e
  split at e
  · simp only [Option.some.injEq] at e; subst e; exact ways_ok _ (fun _ _ => rfl) h
  · cases e)

def I6 : CallF := addV I5 20 spec20
theorem s6 : Sound Go.Proofs.Try.prog I6 := Sound.addV2 follows ok s5 sAw (by decide) (fun args v h => by
  unfold spec20 at h
  split at h
  · simp only [Option.some.injEq] at h; subst h; exact ⟨60, isTrue0_eq awake_run⟩
  · cases h)

theorem m24 (x n : Int) (h : Heap) (h1 : 0 < n) (h2 : n < 9223372036854775808) : I6 24 [G x, G n] h = some (G ((x % 18446744073709551616) % n), [], false) := by
  simp [I6, I5, I4, I3, addI, addV, spec24, h1, h2]
theorem m28 (lot bad : Int) (h : Heap) (hl : lotOk lot bad) : I6 28 [G lot, G bad] h = some (.tup [G (ofZ lot bad), G 0], [], false) := by
  simp [I6, I5, addI, addV, spec28, hl]
theorem m20 (h : Heap) : I6 20 [] h = some (.bool true, [], false) := by
  simp [I6, addV, spec20]

theorem ch_sym : ∀ (n k : Nat), k ≤ n → ch n k = ch n (n - k)
  | 0, 0, _ => rfl
  | n + 1, 0, _ => by
    have : ∀ n, ch n n = 1 := by
      intro n
      induction n with
      | zero => rfl
      | succ n ih => rw [ch, ih, ch_gt n (n + 1) (by omega)]
    rw [ch_zero, Nat.sub_zero, this]
  | n + 1, k + 1, h => by
    by_cases hk : k = n
    · subst hk
      have : ∀ n, ch n n = 1 := by
        intro n
        induction n with
        | zero => rfl
        | succ n ih => rw [ch, ih, ch_gt n (n + 1) (by omega)]
      rw [this, Nat.sub_self, ch_zero]
    · have e : n + 1 - (k + 1) = (n - (k + 1)) + 1 := by omega
      rw [e, ch, ch, ch_sym n k (by omega), ch_sym n (k + 1) (by omega), Nat.add_comm]
      have e2 : n - k = n - (k + 1) + 1 := by omega
      rw [e2]

section
variable {s : T} {lot bad p q a b c d : Int}
theorem p8_0 : ∃ s1, evCode (kn I6) c8_o0 (T.set (T.set .leaf [] (G lot)) [false] (G bad)) (frameOf e0) = some (.normal, s1, frameOf e0) ∧ s1.get [] = G lot ∧ s1.get [false] = G bad := by
  simp [c8_o0]
theorem p8_1 (x0 : s.get [] = G lot) (x1 : s.get [false] = G bad) (m1 : I6 24 [G lot, G 35] (frameOf e0) = some (G p, [], false)) (w1 : IntKind.i64.wrap (2 + p) = 2 + p) :
    ∃ s1, evCode (kn I6) c8_o1 s (frameOf e0) = some (.normal, s1, frameOf e0) ∧ s1.get [] = G (2 + p) ∧ s1.get [false] = G bad := by
  simp [c8_o1, kn, x0, x1, m1, w1]
theorem p8_2 (x0 : s.get [] = G (2 + p)) (x1 : s.get [false] = G bad) (w2 : IntKind.i64.wrap (2 + p - 1) = 1 + p) (m2 : I6 24 [G bad, G (1 + p)] (frameOf e0) = some (G q, [], false)) (w3 : IntKind.i64.wrap (1 + q) = 1 + q) :
    ∃ s1, evCode (kn I6) c8_o2 s (frameOf e0) = some (.normal, s1, frameOf e0) ∧ s1.get [] = G (2 + p) ∧ s1.get [false] = G (1 + q) := by
  simp [c8_o2, kn, x0, x1, m2, w2, w3]
theorem p8_3 (x0 : s.get [] = G (2 + p)) (x1 : s.get [false] = G (1 + q)) (c1 : I6 28 [G (2 + p), G (1 + q)] (frameOf e0) = some (.tup [G a, G 0], [], false)) :
    ∃ s1, evCode (kn I6) c8_o3 s (frameOf e0) = some (.normal, s1, frameOf e0) ∧ s1.get [] = G (2 + p) ∧ s1.get [false] = G (1 + q) ∧ s1.get [false, true] = G a ∧ s1.get [true, true] = G 0 := by
  simp [c8_o3, kn, x0, x1, c1]
theorem p8_4 (x0 : s.get [] = G (2 + p)) (x1 : s.get [false] = G (1 + q)) (x2 : s.get [false, true] = G a) (x3 : s.get [true, true] = G 0) (w2 : IntKind.i64.wrap (2 + p - 1) = 1 + p) (c2 : I6 28 [G (1 + p), G (1 + q)] (frameOf e0) = some (.tup [G b, G 0], [], false)) :
    ∃ s1, evCode (kn I6) c8_o4 s (frameOf e0) = some (.normal, s1, frameOf e0) ∧ s1.get [] = G (2 + p) ∧ s1.get [false] = G (1 + q) ∧ s1.get [false, true] = G a ∧ s1.get [true, true] = G 0 ∧ s1.get [false, false, false] = G b ∧ s1.get [true, false, false] = G 0 := by
  simp [c8_o4, kn, x0, x1, x2, x3, w2, c2]
theorem p8_5 (x0 : s.get [] = G (2 + p)) (x1 : s.get [false] = G (1 + q)) (x2 : s.get [false, true] = G a) (x3 : s.get [true, true] = G 0) (x4 : s.get [false, false, false] = G b) (x5 : s.get [true, false, false] = G 0)
    (w2 : IntKind.i64.wrap (2 + p - 1) = 1 + p) (w4 : IntKind.i64.wrap (1 + q - 1) = q) (c3 : I6 28 [G (1 + p), G q] (frameOf e0) = some (.tup [G c, G 0], [], false)) :
    ∃ s1, evCode (kn I6) c8_o5 s (frameOf e0) = some (.normal, s1, frameOf e0) ∧ s1.get [] = G (2 + p) ∧ s1.get [false] = G (1 + q) ∧ s1.get [false, true] = G a ∧ s1.get [true, true] = G 0 ∧ s1.get [false, false, false] = G b ∧ s1.get [true, false, false] = G 0 ∧
      s1.get [false, true, false] = G c ∧ s1.get [true, true, false] = G 0 := by
  simp [c8_o5, kn, x0, x1, x2, x3, x4, x5, w2, w4, c3]
theorem p8_6 (x0 : s.get [] = G (2 + p)) (x1 : s.get [false] = G (1 + q)) (x2 : s.get [false, true] = G a) (x3 : s.get [true, true] = G 0) (x4 : s.get [false, false, false] = G b) (x5 : s.get [true, false, false] = G 0) (x6 : s.get [false, true, false] = G c) (x7 : s.get [true, true, false] = G 0)
    (w5 : IntKind.i64.wrap (2 + p - (1 + q)) = 1 + p - q) (c4 : I6 28 [G (2 + p), G (1 + p - q)] (frameOf e0) = some (.tup [G d, G 0], [], false)) :
    ∃ s1, evCode (kn I6) c8_o6 s (frameOf e0) = some (.normal, s1, frameOf e0) ∧ s1.get [false, true] = G a ∧ s1.get [true, true] = G 0 ∧ s1.get [false, false, false] = G b ∧ s1.get [true, false, false] = G 0 ∧
      s1.get [false, true, false] = G c ∧ s1.get [true, true, false] = G 0 ∧ s1.get [false, false, true] = G d ∧ s1.get [true, false, true] = G 0 := by
  simp [c8_o6, kn, x0, x1, x2, x3, x4, x5, x6, x7, w5, c4]
theorem p8_7 (x2 : s.get [false, true] = G a) (x3 : s.get [true, true] = G 0) (x4 : s.get [false, false, false] = G b) (x5 : s.get [true, false, false] = G 0) (x6 : s.get [false, true, false] = G c)
    (x7 : s.get [true, true, false] = G 0) (x8 : s.get [false, false, true] = G d) (x9 : s.get [true, false, true] = G 0) (w6 : IntKind.i64.wrap (b + c) = a) (e1 : (a == d) = true) (c5 : I6 20 [] (frameOf e0) = some (.bool true, [], false)) :
    ∃ s1, evCode (kn I6) c8_o7 s (frameOf e0) = some (.normal, s1, frameOf e0) ∧ s1.get [true, false] = .bool true := by
  simp [c8_o7, kn, x2, x3, x4, x5, x6, x7, x8, x9, w6, e1, c5]
end

theorem pascal_ok (lot bad : Int) : CallsTo tbl I6 8 [G lot, G bad] e0 (.bool true, [], false) := by
  have a1 := Int.emod_nonneg (lot % 18446744073709551616) (show (35 : Int) ≠ 0 by decide)
  have a2 := Int.emod_lt_of_pos (lot % 18446744073709551616) (show (0 : Int) < 35 by decide)
  have m1 := m24 lot 35 (frameOf e0) (by decide) (by decide)
  generalize hp : (lot % 18446744073709551616) % 35 = p at *
  have w1 : IntKind.i64.wrap (2 + p) = 2 + p := wrap_id _ (by omega) (by omega)
  have w2 : IntKind.i64.wrap (2 + p - 1) = 1 + p := by rw [wrap_id _ (by omega) (by omega)]; omega
  have m2 := m24 bad (1 + p) (frameOf e0) (by omega) (by omega)
  have b1 := Int.emod_nonneg (bad % 18446744073709551616) (show (1 + p : Int) ≠ 0 by omega)
  have b2 := Int.emod_lt_of_pos (bad % 18446744073709551616) (show (0 : Int) < 1 + p by omega)
  generalize hq : (bad % 18446744073709551616) % (1 + p) = q at *
  have w3 : IntKind.i64.wrap (1 + q) = 1 + q := wrap_id _ (by omega) (by omega)
  have w4 : IntKind.i64.wrap (1 + q - 1) = q := by rw [wrap_id _ (by omega) (by omega)]; omega
  have w5 : IntKind.i64.wrap (2 + p - (1 + q)) = 1 + p - q := by rw [wrap_id _ (by omega) (by omega)]; omega
  have c1 := m28 (2 + p) (1 + q) (frameOf e0) ⟨by omega, by omega⟩
  have c2 := m28 (1 + p) (1 + q) (frameOf e0) ⟨by omega, by omega⟩
  have c3 := m28 (1 + p) q (frameOf e0) ⟨by omega, by omega⟩
  have c4 := m28 (2 + p) (1 + p - q) (frameOf e0) ⟨by omega, by omega⟩
  have c5 := m20 (frameOf e0)
  have h1 : ofZ (2 + p) (1 + q) = ofZ (1 + p) q + ofZ (1 + p) (1 + q) := by
    unfold ofZ
    rw [if_pos (by omega), if_pos (by omega), if_pos (by omega), ch_step _ _ (by omega) (by omega)]
    congr 2 <;> omega
  have h2 : ofZ (2 + p) (1 + q) = ofZ (2 + p) (1 + p - q) := by
    unfold ofZ
    rw [if_pos (by omega), if_pos (by omega), ch_sym _ _ (by omega)]
    congr 1; omega
  have hb : ∀ n k : Int, n ≤ 36 → (ofZ n k : Int) ≤ 68719476736 := by
    intro n k hn
    unfold ofZ
    split
    · have := ch_le n.toNat k.toNat
      have := Nat.pow_le_pow_right (show 0 < 2 by omega) (show n.toNat ≤ 36 by omega)
      omega
    · omega
  have d1 := hb (1 + p) q (by omega)
  have d2 := hb (1 + p) (1 + q) (by omega)
  have w6 : IntKind.i64.wrap ((ofZ (1 + p) (1 + q) : Int) + (ofZ (1 + p) q : Int)) = (ofZ (2 + p) (1 + q) : Int) := by
    rw [wrap_id _ (by omega) (by omega)]; omega
  have e1 : ((ofZ (2 + p) (1 + q) : Int) == (ofZ (2 + p) (1 + p - q) : Int)) = true := by rw [h2]; simp
  obtain ⟨s0, f0, x00, x01⟩ := p8_0 (lot := lot) (bad := bad)
  obtain ⟨s1, f1, x10, x11⟩ := p8_1 x00 x01 m1 w1
  obtain ⟨s2, f2, x20, x21⟩ := p8_2 x10 x11 w2 m2 w3
  obtain ⟨s3, f3, x30, x31, x32, x33⟩ := p8_3 x20 x21 c1
  obtain ⟨s4, f4, x40, x41, x42, x43, x44, x45⟩ := p8_4 x30 x31 x32 x33 w2 c2
  obtain ⟨s5, f5, x50, x51, x52, x53, x54, x55, x56, x57⟩ := p8_5 x40 x41 x42 x43 x44 x45 w2 w4 c3
  obtain ⟨s6, f6, x62, x63, x64, x65, x66, x67, x68, x69⟩ := p8_6 x50 x51 x52 x53 x54 x55 x56 x57 w5 c4
  obtain ⟨s7, f7, x70⟩ := p8_7 x62 x63 x64 x65 x66 x67 x68 x69 w6 e1 c5
  exact CallsTo.fn (cf := c8) (e := .ret) (vs := [.bool true]) (by decide) rfl rfl rfl rfl
    (Runs.seq (Runs.chunk f0) (Runs.seq (Runs.chunk f1) (Runs.seq (Runs.chunk f2) (Runs.seq (Runs.chunk f3) (Runs.seq (Runs.chunk f4) (Runs.seq (Runs.chunk f5) (Runs.seq (Runs.chunk f6) (Runs.seq (Runs.chunk f7) (Runs.chunk rfl)))))))) ) (by simp) (by simp [c8, x70])

end Go.Proofs.Ytlkgpcfhpeilhaa.Ev
