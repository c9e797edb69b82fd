/-
  What ints answers: whether two slices hold the same. No condition.
-/
import Derived.Test.YtjeemgaoonapgaaRBase
set_option linter.unusedVariables false
set_option linter.unusedSimpArgs false
namespace Go.Proofs.Ytjeemgaoonapgaa.Ev
open Go Go.AEv

attribute [local simp] evFunc initS evOps_c evTrim_c evSkip_c evExit_c evRet_c evSeq_c evCond_c evBlock_c evDraw_c runOps_n runOps_c exec_n exec_g pure1_c act AOpd.ev T.get T.set T.put evBin evUn forceT_eq forceV_eq forceL_eq evRess evRes one keep runFP_n runFP_c app_none AV.flats AV.flat came_some List.getElem?_cons_zero List.getElem?_cons_succ beqT wrapI idxI tdivI tmodI decT decF ibT ibF inT inF evScope_c if_pos if_neg Cm_some thenW_n thenW_e thenW_r blkW_n blkW_e blkW_r goI kn putAt AV.cells fillA loadA takeA mk Eff.isAll Eff.isNone Eff.commutes Eff.spares okPair apart eqAgg fits LK.fits allEq aveq eqk mmA

section
variable {a b : List Int} {b1 b2 v1 v2 n : Nat}
theorem ints_loop (J : CallF) (h : Heap) {ca cb : List AV} (ha : h.get b1 = .cells 1 v1 ca) (hb : h.get b2 = .cells 1 v2 cb) (hca : ∀ i : Nat, ca[i]? = (a[i]?).map fun n => AV.int .i64 n) (hcb : ∀ i : Nat, cb[i]? = (b[i]?).map fun n => AV.int .i64 n) (la : a.length = n) (lb : b.length = n) (hn : n ≤ 1000000) :
    ∀ j i, i + j = n → (a.drop i = b.drop i → Tr tbl J c24_l0 (fun s h' => s.get [] = .slice b1 0 n v1 ∧ s.get [false] = .slice b2 0 n v2 ∧ s.get [false, true] = G i ∧ h' = ⟨h.get, h.size, []⟩) (.exit 0) (fun s h => True)) ∧
      (a.drop i ≠ b.drop i → Tr tbl J c24_l0 (fun s h' => s.get [] = .slice b1 0 n v1 ∧ s.get [false] = .slice b2 0 n v2 ∧ s.get [false, true] = G i ∧ h' = ⟨h.get, h.size, []⟩) .ret (fun s h => s.get [true, false] = .bool false)) := by
  have h1 := get_lt ha (by simp)
  have h2 := get_lt hb (by simp)
  intro j
  induction j with
  | zero =>
    intro i hi
    obtain rfl : i = n := by omega
    have e1 : a.drop i = [] := List.drop_of_length_le (by omega)
    have e2 : b.drop i = [] := List.drop_of_length_le (by omega)
    refine ⟨fun _ => ?_, fun hne => absurd (e1.trans e2.symm) hne⟩
    have t : Tr tbl J ((.trim [[], [false], [false, true]] c24_b0)) (fun s h' => s.get [] = .slice b1 0 i v1 ∧ s.get [false] = .slice b2 0 i v2 ∧ s.get [false, true] = G i ∧ h' = ⟨h.get, h.size, []⟩) (.exit 0) (fun s h => True) := Tr.region fun s h hp => by
      obtain ⟨g0, g1, g2, rfl⟩ := hp
      simp (disch := first | omega | exact getEq rfl | exact getO0 | exact Nat.le_of_ble_eq_true rfl) [c24_b0, c24_o4, size_mk, get_mk_lt, get_mk_ge, frameOf, Eff.app, Heap.setOwn, g0, g1, g2]
    exact Tr.out t (by simp)
  | succ j ih =>
    intro i hi
    have hia : i < a.length := by omega
    have hib : i < b.length := by omega
    have ea : a[i]? = some a[i] := List.getElem?_eq_getElem hia
    have eb : b[i]? = some b[i] := List.getElem?_eq_getElem hib
    have da : a.drop i = a[i] :: a.drop (i + 1) := List.drop_eq_getElem_cons hia
    have db : b.drop i = b[i] :: b.drop (i + 1) := List.drop_eq_getElem_cons hib
    rw [da, db]
    have xa := hca i
    have xb := hcb i
    rw [ea] at xa
    rw [eb] at xb
    simp only [Option.map_some] at xa xb
    clear ea eb da db hca hcb
    generalize a[i] = p at *
    generalize b[i] = q at *
    have ih' := ih (i + 1) (by omega)
    by_cases hpq : p = q
    · subst hpq
      have t : Tr tbl J ((.trim [[], [false], [false, true]] c24_b0)) (fun s h' => s.get [] = .slice b1 0 n v1 ∧ s.get [false] = .slice b2 0 n v2 ∧ s.get [false, true] = G i ∧ h' = ⟨h.get, h.size, []⟩) .normal (fun s h' => s.get [] = .slice b1 0 n v1 ∧ s.get [false] = .slice b2 0 n v2 ∧ s.get [false, true] = G ((i + 1 : Nat) : Int) ∧ h' = ⟨h.get, h.size, []⟩) := Tr.region fun s h hp => by
        obtain ⟨g0, g1, g2, rfl⟩ := hp
        simp (disch := first | omega | exact getEq rfl | exact getO0 | exact Nat.le_of_ble_eq_true rfl) [c24_b0, c24_o4, c24_o5, c24_o7, size_mk, get_mk_lt, get_mk_ge, frameOf, Eff.app, Heap.setOwn, g0, g1, g2, ha, hb, xa, xb]
      exact ⟨fun e => Tr.next t (ih'.1 (by simpa using e)), fun e => Tr.next t (ih'.2 (by simpa using e))⟩
    · refine ⟨fun e => absurd (List.cons.inj e).1 hpq, fun _ => ?_⟩
      have t : Tr tbl J ((.trim [[], [false], [false, true]] c24_b0)) (fun s h' => s.get [] = .slice b1 0 n v1 ∧ s.get [false] = .slice b2 0 n v2 ∧ s.get [false, true] = G i ∧ h' = ⟨h.get, h.size, []⟩) .ret (fun s h => s.get [true, false] = .bool false) := Tr.region fun s h hp => by
        obtain ⟨g0, g1, g2, rfl⟩ := hp
        simp (disch := first | omega | exact getEq rfl | exact getO0 | exact Nat.le_of_ble_eq_true rfl) [c24_b0, c24_o4, c24_o5, c24_o6, size_mk, get_mk_lt, get_mk_ge, frameOf, Eff.app, Heap.setOwn, g0, g1, g2, ha, hb, xa, xb, hpq]
      exact Tr.out t (by simp)


theorem ints_nn (J : CallF) (hJ : ∀ a h, J 24 a h = none) (h : Heap)  : CallsTo tbl J 24 [.nils, .nils] h (.bool (decide (([] : List Int) = [])), [], false) := by
  refine Tr.fnv (cf := c24) (e := .ret) (s := T.set (T.set .leaf [] (.nils)) [false] (.nils)) (by decide) rfl (hJ _ _) rfl rfl rfl (by simp) ?_
  have t0 : Tr tbl J (c24_o0) (fun s h' => s = T.set (T.set .leaf [] (.nils)) [false] (.nils) ∧ h' = frameOf h) .normal (fun s h' => s.get [] = .nils ∧ s.get [false] = .nils ∧ h' = ⟨h.get, h.size, []⟩) := Tr.region fun s h hp => by
    obtain ⟨rfl, rfl⟩ := hp
    simp (disch := first | omega | exact getEq rfl | exact getO0 | exact Nat.le_of_ble_eq_true rfl) [c24_o0, frameOf, Heap.size, Heap.get, Eff.app, Heap.setOwn]
  by_cases hab : (0) = 0
  ·
    have t1 : Tr tbl J ((.seq c24_o1 (.cond (.s [true, true, false]) (.seq c24_o2 .ret) .skip))) (fun s h' => s.get [] = .nils ∧ s.get [false] = .nils ∧ h' = ⟨h.get, h.size, []⟩) .normal (fun s h' => s.get [] = .nils ∧ s.get [false] = .nils ∧ h' = ⟨h.get, h.size, []⟩) := Tr.region fun s h hp => by
      obtain ⟨g0, g1, rfl⟩ := hp
      simp (disch := first | omega | exact getEq rfl | exact getO0 | exact Nat.le_of_ble_eq_true rfl) [c24_o1, size_mk, get_mk_lt, get_mk_ge, frameOf, Eff.app, Heap.setOwn, g0, g1, hab]
    have t2 : Tr tbl J (c24_o3) (fun s h' => s.get [] = .nils ∧ s.get [false] = .nils ∧ h' = ⟨h.get, h.size, []⟩) .normal (fun s h' => s.get [] = .nils ∧ s.get [false] = .nils ∧ s.get [false, true] = G ((0 : Nat) : Int) ∧ h' = ⟨h.get, h.size, []⟩) := Tr.region fun s h hp => by
      obtain ⟨g0, g1, rfl⟩ := hp
      simp (disch := first | omega | exact getEq rfl | exact getO0 | exact Nat.le_of_ble_eq_true rfl) [c24_o3, size_mk, get_mk_lt, get_mk_ge, frameOf, Eff.app, Heap.setOwn, g0, g1]
    have t3 : Tr tbl J ((.seq c24_o8 .ret)) (fun s h => True) .ret (fun s h => s.get [true, false] = .bool true) := Tr.region fun s h hp => by
      simp (disch := first | omega | exact getEq rfl | exact getO0 | exact Nat.le_of_ble_eq_true rfl) [c24_o8, frameOf, Heap.size, Heap.get, Eff.app, Heap.setOwn]
    have t4 : Tr tbl J ((.trim [[], [false], [false, true]] c24_b0)) (fun s h' => s.get [] = .nils ∧ s.get [false] = .nils ∧ s.get [false, true] = G ((0 : Nat) : Int) ∧ h' = ⟨h.get, h.size, []⟩) (.exit 0) (fun s h => True) := Tr.region fun s h hp => by
      obtain ⟨g0, g1, g2, rfl⟩ := hp
      simp (disch := first | omega | exact getEq rfl | exact getO0 | exact Nat.le_of_ble_eq_true rfl) [c24_b0, c24_o4, size_mk, get_mk_lt, get_mk_ge, frameOf, Eff.app, Heap.setOwn, g0, g1, g2, hab]
    exact Tr.post (fun s h q => by simp [c24, q]) (Tr.seq t0 (Tr.seq t1 (Tr.seq (Tr.seq t2 (Tr.block (Tr.out t4 (by simp)))) t3)))
  · exact absurd rfl hab

theorem ints_ns (J : CallF) (hJ : ∀ a h, J 24 a h = none) (h : Heap)  : CallsTo tbl J 24 [.nils, .slice b2 0 b.length v2] h (.bool (decide (([] : List Int) = b)), [], false) := by
  refine Tr.fnv (cf := c24) (e := .ret) (s := T.set (T.set .leaf [] (.nils)) [false] (.slice b2 0 b.length v2)) (by decide) rfl (hJ _ _) rfl rfl rfl (by simp) ?_
  have t0 : Tr tbl J (c24_o0) (fun s h' => s = T.set (T.set .leaf [] (.nils)) [false] (.slice b2 0 b.length v2) ∧ h' = frameOf h) .normal (fun s h' => s.get [] = .nils ∧ s.get [false] = .slice b2 0 b.length v2 ∧ h' = ⟨h.get, h.size, []⟩) := Tr.region fun s h hp => by
    obtain ⟨rfl, rfl⟩ := hp
    simp (disch := first | omega | exact getEq rfl | exact getO0 | exact Nat.le_of_ble_eq_true rfl) [c24_o0, frameOf, Heap.size, Heap.get, Eff.app, Heap.setOwn]
  by_cases hab : (0) = b.length
  ·
    have t1 : Tr tbl J ((.seq c24_o1 (.cond (.s [true, true, false]) (.seq c24_o2 .ret) .skip))) (fun s h' => s.get [] = .nils ∧ s.get [false] = .slice b2 0 b.length v2 ∧ h' = ⟨h.get, h.size, []⟩) .normal (fun s h' => s.get [] = .nils ∧ s.get [false] = .slice b2 0 b.length v2 ∧ h' = ⟨h.get, h.size, []⟩) := Tr.region fun s h hp => by
      obtain ⟨g0, g1, rfl⟩ := hp
      simp (disch := first | omega | exact getEq rfl | exact getO0 | exact Nat.le_of_ble_eq_true rfl) [c24_o1, size_mk, get_mk_lt, get_mk_ge, frameOf, Eff.app, Heap.setOwn, g0, g1, hab]
    have t2 : Tr tbl J (c24_o3) (fun s h' => s.get [] = .nils ∧ s.get [false] = .slice b2 0 b.length v2 ∧ h' = ⟨h.get, h.size, []⟩) .normal (fun s h' => s.get [] = .nils ∧ s.get [false] = .slice b2 0 b.length v2 ∧ s.get [false, true] = G ((0 : Nat) : Int) ∧ h' = ⟨h.get, h.size, []⟩) := Tr.region fun s h hp => by
      obtain ⟨g0, g1, rfl⟩ := hp
      simp (disch := first | omega | exact getEq rfl | exact getO0 | exact Nat.le_of_ble_eq_true rfl) [c24_o3, size_mk, get_mk_lt, get_mk_ge, frameOf, Eff.app, Heap.setOwn, g0, g1]
    have t3 : Tr tbl J ((.seq c24_o8 .ret)) (fun s h => True) .ret (fun s h => s.get [true, false] = .bool true) := Tr.region fun s h hp => by
      simp (disch := first | omega | exact getEq rfl | exact getO0 | exact Nat.le_of_ble_eq_true rfl) [c24_o8, frameOf, Heap.size, Heap.get, Eff.app, Heap.setOwn]
    have t4 : Tr tbl J ((.trim [[], [false], [false, true]] c24_b0)) (fun s h' => s.get [] = .nils ∧ s.get [false] = .slice b2 0 b.length v2 ∧ s.get [false, true] = G ((0 : Nat) : Int) ∧ h' = ⟨h.get, h.size, []⟩) (.exit 0) (fun s h => True) := Tr.region fun s h hp => by
      obtain ⟨g0, g1, g2, rfl⟩ := hp
      simp (disch := first | omega | exact getEq rfl | exact getO0 | exact Nat.le_of_ble_eq_true rfl) [c24_b0, c24_o4, size_mk, get_mk_lt, get_mk_ge, frameOf, Eff.app, Heap.setOwn, g0, g1, g2, hab]
    have e1 : b = [] := List.length_eq_zero_iff.1 hab.symm
    exact Tr.post (fun s h q => by simp [c24, q, e1]) (Tr.seq t0 (Tr.seq t1 (Tr.seq (Tr.seq t2 (Tr.block (Tr.out t4 (by simp)))) t3)))
  ·
    have t1 : Tr tbl J ((.seq c24_o1 (.cond (.s [true, true, false]) (.seq c24_o2 .ret) .skip))) (fun s h' => s.get [] = .nils ∧ s.get [false] = .slice b2 0 b.length v2 ∧ h' = ⟨h.get, h.size, []⟩) .ret (fun s h => s.get [true, false] = .bool false) := Tr.region fun s h hp => by
      obtain ⟨g0, g1, rfl⟩ := hp
      simp (disch := first | omega | exact getEq rfl | exact getO0 | exact Nat.le_of_ble_eq_true rfl) [c24_o1, c24_o2, size_mk, get_mk_lt, get_mk_ge, frameOf, Eff.app, Heap.setOwn, g0, g1, hab]
    refine Tr.post (fun s h q => ?_) (Tr.seq t0 (Tr.seq_out t1 (by simp)))
    have hne : ¬ b = [] := fun e => hab (by rw [e]; rfl)
    simp [c24, q, hne]

theorem ints_sn (J : CallF) (hJ : ∀ a h, J 24 a h = none) (h : Heap)  : CallsTo tbl J 24 [.slice b1 0 a.length v1, .nils] h (.bool (decide (a = [])), [], false) := by
  refine Tr.fnv (cf := c24) (e := .ret) (s := T.set (T.set .leaf [] (.slice b1 0 a.length v1)) [false] (.nils)) (by decide) rfl (hJ _ _) rfl rfl rfl (by simp) ?_
  have t0 : Tr tbl J (c24_o0) (fun s h' => s = T.set (T.set .leaf [] (.slice b1 0 a.length v1)) [false] (.nils) ∧ h' = frameOf h) .normal (fun s h' => s.get [] = .slice b1 0 a.length v1 ∧ s.get [false] = .nils ∧ h' = ⟨h.get, h.size, []⟩) := Tr.region fun s h hp => by
    obtain ⟨rfl, rfl⟩ := hp
    simp (disch := first | omega | exact getEq rfl | exact getO0 | exact Nat.le_of_ble_eq_true rfl) [c24_o0, frameOf, Heap.size, Heap.get, Eff.app, Heap.setOwn]
  by_cases hab : (a.length) = 0
  ·
    have t1 : Tr tbl J ((.seq c24_o1 (.cond (.s [true, true, false]) (.seq c24_o2 .ret) .skip))) (fun s h' => s.get [] = .slice b1 0 a.length v1 ∧ s.get [false] = .nils ∧ h' = ⟨h.get, h.size, []⟩) .normal (fun s h' => s.get [] = .slice b1 0 a.length v1 ∧ s.get [false] = .nils ∧ h' = ⟨h.get, h.size, []⟩) := Tr.region fun s h hp => by
      obtain ⟨g0, g1, rfl⟩ := hp
      simp (disch := first | omega | exact getEq rfl | exact getO0 | exact Nat.le_of_ble_eq_true rfl) [c24_o1, size_mk, get_mk_lt, get_mk_ge, frameOf, Eff.app, Heap.setOwn, g0, g1, hab]
    have t2 : Tr tbl J (c24_o3) (fun s h' => s.get [] = .slice b1 0 a.length v1 ∧ s.get [false] = .nils ∧ h' = ⟨h.get, h.size, []⟩) .normal (fun s h' => s.get [] = .slice b1 0 a.length v1 ∧ s.get [false] = .nils ∧ s.get [false, true] = G ((0 : Nat) : Int) ∧ h' = ⟨h.get, h.size, []⟩) := Tr.region fun s h hp => by
      obtain ⟨g0, g1, rfl⟩ := hp
      simp (disch := first | omega | exact getEq rfl | exact getO0 | exact Nat.le_of_ble_eq_true rfl) [c24_o3, size_mk, get_mk_lt, get_mk_ge, frameOf, Eff.app, Heap.setOwn, g0, g1]
    have t3 : Tr tbl J ((.seq c24_o8 .ret)) (fun s h => True) .ret (fun s h => s.get [true, false] = .bool true) := Tr.region fun s h hp => by
      simp (disch := first | omega | exact getEq rfl | exact getO0 | exact Nat.le_of_ble_eq_true rfl) [c24_o8, frameOf, Heap.size, Heap.get, Eff.app, Heap.setOwn]
    have t4 : Tr tbl J ((.trim [[], [false], [false, true]] c24_b0)) (fun s h' => s.get [] = .slice b1 0 a.length v1 ∧ s.get [false] = .nils ∧ s.get [false, true] = G ((0 : Nat) : Int) ∧ h' = ⟨h.get, h.size, []⟩) (.exit 0) (fun s h => True) := Tr.region fun s h hp => by
      obtain ⟨g0, g1, g2, rfl⟩ := hp
      simp (disch := first | omega | exact getEq rfl | exact getO0 | exact Nat.le_of_ble_eq_true rfl) [c24_b0, c24_o4, size_mk, get_mk_lt, get_mk_ge, frameOf, Eff.app, Heap.setOwn, g0, g1, g2, hab]
    have e1 : a = [] := List.length_eq_zero_iff.1 hab
    exact Tr.post (fun s h q => by simp [c24, q, e1]) (Tr.seq t0 (Tr.seq t1 (Tr.seq (Tr.seq t2 (Tr.block (Tr.out t4 (by simp)))) t3)))
  ·
    have t1 : Tr tbl J ((.seq c24_o1 (.cond (.s [true, true, false]) (.seq c24_o2 .ret) .skip))) (fun s h' => s.get [] = .slice b1 0 a.length v1 ∧ s.get [false] = .nils ∧ h' = ⟨h.get, h.size, []⟩) .ret (fun s h => s.get [true, false] = .bool false) := Tr.region fun s h hp => by
      obtain ⟨g0, g1, rfl⟩ := hp
      simp (disch := first | omega | exact getEq rfl | exact getO0 | exact Nat.le_of_ble_eq_true rfl) [c24_o1, c24_o2, size_mk, get_mk_lt, get_mk_ge, frameOf, Eff.app, Heap.setOwn, g0, g1, hab]
    refine Tr.post (fun s h q => ?_) (Tr.seq t0 (Tr.seq_out t1 (by simp)))
    have hne : ¬ a = [] := fun e => hab (by rw [e]; rfl)
    simp [c24, q, hne]

theorem ints_ss (J : CallF) (hJ : ∀ a h, J 24 a h = none) (h : Heap) (hn : a.length ≤ 1000000) {ca cb : List AV} (ha : h.get b1 = .cells 1 v1 ca) (hb : h.get b2 = .cells 1 v2 cb) (hca : ∀ i : Nat, ca[i]? = (a[i]?).map fun n => AV.int .i64 n) (hcb : ∀ i : Nat, cb[i]? = (b[i]?).map fun n => AV.int .i64 n) : CallsTo tbl J 24 [.slice b1 0 a.length v1, .slice b2 0 b.length v2] h (.bool (decide (a = b)), [], false) := by
  refine Tr.fnv (cf := c24) (e := .ret) (s := T.set (T.set .leaf [] (.slice b1 0 a.length v1)) [false] (.slice b2 0 b.length v2)) (by decide) rfl (hJ _ _) rfl rfl rfl (by simp) ?_
  have t0 : Tr tbl J (c24_o0) (fun s h' => s = T.set (T.set .leaf [] (.slice b1 0 a.length v1)) [false] (.slice b2 0 b.length v2) ∧ h' = frameOf h) .normal (fun s h' => s.get [] = .slice b1 0 a.length v1 ∧ s.get [false] = .slice b2 0 b.length v2 ∧ h' = ⟨h.get, h.size, []⟩) := Tr.region fun s h hp => by
    obtain ⟨rfl, rfl⟩ := hp
    simp (disch := first | omega | exact getEq rfl | exact getO0 | exact Nat.le_of_ble_eq_true rfl) [c24_o0, frameOf, Heap.size, Heap.get, Eff.app, Heap.setOwn]
  by_cases hab : (a.length) = b.length
  ·
    have t1 : Tr tbl J ((.seq c24_o1 (.cond (.s [true, true, false]) (.seq c24_o2 .ret) .skip))) (fun s h' => s.get [] = .slice b1 0 a.length v1 ∧ s.get [false] = .slice b2 0 b.length v2 ∧ h' = ⟨h.get, h.size, []⟩) .normal (fun s h' => s.get [] = .slice b1 0 a.length v1 ∧ s.get [false] = .slice b2 0 b.length v2 ∧ h' = ⟨h.get, h.size, []⟩) := Tr.region fun s h hp => by
      obtain ⟨g0, g1, rfl⟩ := hp
      simp (disch := first | omega | exact getEq rfl | exact getO0 | exact Nat.le_of_ble_eq_true rfl) [c24_o1, size_mk, get_mk_lt, get_mk_ge, frameOf, Eff.app, Heap.setOwn, g0, g1, hab]
    have t2 : Tr tbl J (c24_o3) (fun s h' => s.get [] = .slice b1 0 a.length v1 ∧ s.get [false] = .slice b2 0 b.length v2 ∧ h' = ⟨h.get, h.size, []⟩) .normal (fun s h' => s.get [] = .slice b1 0 a.length v1 ∧ s.get [false] = .slice b2 0 b.length v2 ∧ s.get [false, true] = G ((0 : Nat) : Int) ∧ h' = ⟨h.get, h.size, []⟩) := Tr.region fun s h hp => by
      obtain ⟨g0, g1, rfl⟩ := hp
      simp (disch := first | omega | exact getEq rfl | exact getO0 | exact Nat.le_of_ble_eq_true rfl) [c24_o3, size_mk, get_mk_lt, get_mk_ge, frameOf, Eff.app, Heap.setOwn, g0, g1]
    have t3 : Tr tbl J ((.seq c24_o8 .ret)) (fun s h => True) .ret (fun s h => s.get [true, false] = .bool true) := Tr.region fun s h hp => by
      simp (disch := first | omega | exact getEq rfl | exact getO0 | exact Nat.le_of_ble_eq_true rfl) [c24_o8, frameOf, Heap.size, Heap.get, Eff.app, Heap.setOwn]
    obtain ⟨l1, l2⟩ := ints_loop J h ha hb hca hcb rfl hab.symm hn a.length 0 (by omega)
    simp only [List.drop_zero] at l1 l2
    rw [← hab] at t0 t1 t2
    by_cases e : a = b
    · rw [decide_eq_true e]
      exact Tr.post (fun s h q => by simp [c24, q]) (Tr.seq (by rw [← hab]; exact t0) (Tr.seq t1 (Tr.seq (Tr.seq t2 (Tr.block (l1 e))) t3)))
    · rw [decide_eq_false e]
      exact Tr.post (fun s h q => by simp [c24, q]) (Tr.seq (by rw [← hab]; exact t0) (Tr.seq t1 (Tr.seq_out (Tr.seq t2 (Tr.block_out (l2 e) (by simp))) (by simp))))
  ·
    have t1 : Tr tbl J ((.seq c24_o1 (.cond (.s [true, true, false]) (.seq c24_o2 .ret) .skip))) (fun s h' => s.get [] = .slice b1 0 a.length v1 ∧ s.get [false] = .slice b2 0 b.length v2 ∧ h' = ⟨h.get, h.size, []⟩) .ret (fun s h => s.get [true, false] = .bool false) := Tr.region fun s h hp => by
      obtain ⟨g0, g1, rfl⟩ := hp
      simp (disch := first | omega | exact getEq rfl | exact getO0 | exact Nat.le_of_ble_eq_true rfl) [c24_o1, c24_o2, size_mk, get_mk_lt, get_mk_ge, frameOf, Eff.app, Heap.setOwn, g0, g1, hab]
    refine Tr.post (fun s h q => ?_) (Tr.seq t0 (Tr.seq_out t1 (by simp)))
    have hne : ¬ a = b := fun e => hab (by rw [e])
    simp [c24, q, hne]

theorem c24_ok (J : CallF) (hJ : ∀ a h, J 24 a h = none) (h : Heap) (x y : AV) (hx : listOf h x = some a) (hy : listOf h y = some b) (hn : a.length ≤ 1000000) : CallsTo tbl J 24 [x, y] h (.bool (decide (a = b)), [], false) := by
  rcases listOf_some hx with ⟨rfl, rfl⟩ | ⟨b1, v1, rfl, g1⟩ <;> rcases listOf_some hy with ⟨rfl, rfl⟩ | ⟨b2, v2, rfl, g2⟩
  · exact ints_nn J hJ h
  · exact ints_ns J hJ h
  · exact ints_sn J hJ h
  · exact ints_ss J hJ h hn g1 g2 (fun i => List.getElem?_map) (fun i => List.getElem?_map)
end

def spec24 : SpecF := fun args h => match args with
  | [x, y] => match listOf h x, listOf h y with
    | some a, some b => if a.length ≤ 1000000 then some (.bool (decide (a = b)), [], false) else none
    | _, _ => none
  | _ => none

end Go.Proofs.Ytjeemgaoonapgaa.Ev
