/-
  What the reference's Chances answers: the ways to accept, and to reject, after each number of pieces. No condition.
-/
import Derived.Test.YtlkgpcfhpeilhaaSFit
import Derived.Test.YtlkgpcfhpeilhaaSChn
import Derived.Test.YtlkgpcfhpeilhaaSMass
set_option linter.unusedVariables false
set_option linter.unusedSimpArgs false
namespace Go.Proofs.Ytlkgpcfhpeilhaa.Ev
open Go Go.AEv

attribute [local simp] evFunc initS evOps_c evTrim_c evSkip_c evExit_c evRet_c evSeq_c evCond_c evBlock_c evDraw_c runOps_n runOps_c exec_n exec_g pure1_c act AOpd.ev T.get T.set T.put evBin evUn forceT_eq forceV_eq forceL_eq evRess evRes one keep runFP_n runFP_c app_none AV.flats AV.flat

section
variable {lot bad : Int} {A R : Nat → Int} {j m : Nat}
/-- The next ones, m of them reckoned. -/
def nxC (A R : Nat → Int) (j m : Nat) : List AV := zs (fun k => ((if k < m then opn A R (j + 1) k else 0 : Nat) : Int)) (j + 2)
theorem nxC_len : (nxC A R j m).length = j + 2 := by rw [nxC, zs_len]
theorem nxC_0 : nxC A R j 0 = List.replicate (j + 2) (G 0) := by
  rw [zs_rep, nxC]; exact zs_ext _ _ _ fun k _ => by rw [if_neg (by omega)]; rfl
theorem nxC_end : nxC A R j (j + 2) = zs (fun k => (opn A R (j + 1) k : Int)) (j + 2) := zs_ext _ _ _ fun k hk => by rw [if_pos hk]
theorem nxC_at (hm : m < j + 2) : (nxC A R j m)[m]? = some (G 0) := by rw [nxC, zs_at, if_pos hm, if_neg (by omega)]; rfl
theorem nxC_set (hm : m < j + 2) : (nxC A R j m).set m (G (opn A R (j + 1) m)) = nxC A R j (m + 1) := by
  rw [nxC, zs_set _ _ _ _ hm, nxC]
  exact zs_ext _ _ _ fun k hk => by
    by_cases h1 : k = m
    · subst h1; rw [if_pos rfl, if_pos (by omega)]
    · rw [if_neg h1]
      by_cases h2 : k < m
      · rw [if_pos h2, if_pos (by omega)]
      · rw [if_neg h2, if_neg (by omega)]

abbrev L42i : List Path := [[], [false], [false, true], [true, false, false], [false, true, false], [true, true, false], [false, false, true], [true, false, true], [false, true, true], [true, true, true], [false, false, false, false]]
abbrev S42 (lot bad : Int) (b5 bo S j : Nat) (xa xr : AV) (y z : Nat) (m : Nat) : SP := (fun s h => s.get [] = G lot ∧ s.get [false] = G bad ∧ s.get [false, true] = .ptr b5 0 2 ∧ s.get [true, false, false] = .slice bo 0 (j + 1) (j + 1) ∧ s.get [false, true, false] = xa ∧ s.get [true, true, false] = xr ∧ s.get [false, false, true] = G ((j + 1 : Nat) : Int) ∧ s.get [true, false, true] = .slice S 0 (j + 2) (j + 2) ∧ s.get [false, true, true] = G y ∧ s.get [true, true, true] = G z ∧ s.get [false, false, false, false] = G m)

theorem rc_1 (J : CallF) {b5 bo : Nat} {xa xr : AV} {y z : Nat} (H : Heap) (hm : m < j + 2) (hj : j < 36) {co cs : List AV} (fo : H.get bo = .cells 1 (j + 1) co) (ho : ∀ k, k < j + 1 → co[k]? = some (G (opn A R j k))) (hb : ∀ k, opn A R j k ≤ 68719476736) (ls : cs.length = j + 2) (c0 : cs[m]? = some (G 0)) :
    Tr tbl J (.seq (.seq c42_o9 (.cond (.s [false, false, true, false, false]) c42_o10 .skip)) (.seq c42_o11 (.cond (.s [true, false, true, true, false]) c42_o12 .skip))) (fun s h => S42 lot bad b5 bo H.size j xa xr y z m s h ∧ h = H.plus [.cells 1 (j + 2) cs]) .normal (fun s h => S42 lot bad b5 bo H.size j xa xr y z m s h ∧ h = H.plus [.cells 1 (j + 2) (cs.set m (G (nx (opn A R j) m)))]) := by
  have fo' : ∀ c : List AV, (H.plus [.cells 1 (j + 2) c]).get bo = .cells 1 (j + 1) co := fun c => plus_keep _ fo (by simp)
  have pp : ∀ (c : List AV) (v : AV), c.length = j + 2 → Eff.app (.put H.size (j + 2) m [v]) (H.plus [.cells 1 (j + 2) c]) = some (H.plus [.cells 1 (j + 2) (c.set m v)]) := fun c v hc => put_p1 H _ _ _ _ _ _ (by omega)
  have hbs := get_lt fo (by simp)
  have ls' : ∀ v, (cs.set m v).length = j + 2 := fun v => by rw [List.length_set, ls]
  by_cases h0 : m = 0
  · subst h0
    have e : nx (opn A R j) 0 = opn A R j 0 := rfl
    rw [e]
    have x0 := ho 0 (by omega)
    have x0' : ∀ h : 0 < co.length, co[0] = G (opn A R j 0) := fun h => by rw [List.getElem?_eq_getElem h] at x0; exact Option.some.inj x0
    have b0 := hb 0
    generalize opn A R j 0 = o0 at *
    have p1 := pp cs (G o0) ls
    have t : Tr tbl J ((.seq (.seq c42_o9 (.cond (.s [false, false, true, false, false]) c42_o10 .skip)) (.seq c42_o11 (.cond (.s [true, false, true, true, false]) c42_o12 .skip)))) (fun s h => s.get [] = G lot ∧ s.get [false] = G bad ∧ s.get [false, true] = .ptr b5 0 2 ∧ s.get [true, false, false] = .slice bo 0 (j + 1) (j + 1) ∧ s.get [false, true, false] = xa ∧ s.get [true, true, false] = xr ∧ s.get [false, false, true] = G ((j + 1 : Nat) : Int) ∧ s.get [true, false, true] = .slice H.size 0 (j + 2) (j + 2) ∧ s.get [false, true, true] = G y ∧ s.get [true, true, true] = G z ∧ s.get [false, false, false, false] = G ((0 : Nat) : Int) ∧ h = H.plus [.cells 1 (j + 2) cs]) .normal (fun s h => s.get [] = G lot ∧ s.get [false] = G bad ∧ s.get [false, true] = .ptr b5 0 2 ∧ s.get [true, false, false] = .slice bo 0 (j + 1) (j + 1) ∧ s.get [false, true, false] = xa ∧ s.get [true, true, false] = xr ∧ s.get [false, false, true] = G ((j + 1 : Nat) : Int) ∧ s.get [true, false, true] = .slice H.size 0 (j + 2) (j + 2) ∧ s.get [false, true, true] = G y ∧ s.get [true, true, true] = G z ∧ s.get [false, false, false, false] = G ((0 : Nat) : Int) ∧ h = H.plus [.cells 1 (j + 2) (cs.set 0 (G o0))]) := Tr.region fun s h hp => by
      obtain ⟨g0, g1, g2, g3, g4, g5, g6, g7, g8, g9, g10, rfl⟩ := hp
      simp (disch := first | omega | exact getEq rfl | exact getO0 | exact Nat.le_of_ble_eq_true rfl) [c42_o9, c42_o10, c42_o11, came_some, goI, List.getElem?_cons_zero, List.getElem?_cons_succ, kn, keep, app_growP, app_noneP, plus_N, plus_at0, put_plus0, upd_N, upd_size, putAt, AV.cells, fillA, loadA, takeA, mk, Eff.isAll, Eff.isNone, Eff.commutes, Eff.spares, okPair, apart, eqAgg, fits, LK.fits, allEq, aveq, eqk, mmA, beqT, wrapI, idxI, tdivI, tmodI, decT, decF, ibT, ibF, inT, inF, evScope_c, if_pos, if_neg, g0, g1, g2, g3, g4, g5, g6, g7, g8, g9, g10, fo', x0, x0', p1]
    exact Tr.post (fun s h q => by obtain ⟨q0, q1, q2, q3, q4, q5, q6, q7, q8, q9, q10, q11⟩ := q; exact ⟨⟨q0, q1, q2, q3, q4, q5, q6, q7, q8, q9, q10⟩, q11⟩) (Tr.pre (fun s h q => by obtain ⟨⟨q0, q1, q2, q3, q4, q5, q6, q7, q8, q9, q10⟩, q11⟩ := q; exact ⟨q0, q1, q2, q3, q4, q5, q6, q7, q8, q9, q10, q11⟩) t)
  · obtain ⟨k, rfl⟩ : ∃ k, m = k + 1 := ⟨m - 1, by omega⟩
    have e : nx (opn A R j) (k + 1) = opn A R j (k + 1) + opn A R j k := rfl
    have ek : (((k + 1 : Nat) : Int) - 1).toNat = k := by omega
    have x1 := ho k (by omega)
    have x1' : ∀ h : k < co.length, co[k] = G (opn A R j k) := fun h => by rw [List.getElem?_eq_getElem h] at x1; exact Option.some.inj x1
    have b1 := hb k
    have b2 := hb (k + 1)
    by_cases h1 : k + 1 < j + 1
    · have x0 := ho (k + 1) h1
      have x0' : ∀ h : k + 1 < co.length, co[k + 1] = G (opn A R j (k + 1)) := fun h => by rw [List.getElem?_eq_getElem h] at x0; exact Option.some.inj x0
      rw [e]
      generalize opn A R j k = o1 at *
      generalize opn A R j (k + 1) = o0 at *
      have p1 := pp cs (G o0) ls
      have p2 := pp (cs.set (k + 1) (G o0)) (G ((o0 : Int) + o1)) (ls' _)
      rw [List.set_set] at p2
      have g1 : (cs.set (k + 1) (G (o0 : Int)))[k + 1]? = some (G o0) := List.getElem?_set_self (by omega)
      have y1 : ∀ h : k + 1 < (cs.set (k + 1) (G (o0 : Int))).length, (cs.set (k + 1) (G (o0 : Int)))[k + 1] = G o0 := fun h => by rw [List.getElem?_eq_getElem h] at g1; exact Option.some.inj g1
      have es : ((o0 + o1 : Nat) : Int) = (o0 : Int) + o1 := by omega
      rw [es]
      have z1 := g1
      clear g1
      generalize cs.set (k + 1) (G (o0 : Int)) = cs1 at *
      generalize cs.set (k + 1) (G ((o0 : Int) + o1)) = cs2 at *
      have t : Tr tbl J ((.seq (.seq c42_o9 (.cond (.s [false, false, true, false, false]) c42_o10 .skip)) (.seq c42_o11 (.cond (.s [true, false, true, true, false]) c42_o12 .skip)))) (fun s h => s.get [] = G lot ∧ s.get [false] = G bad ∧ s.get [false, true] = .ptr b5 0 2 ∧ s.get [true, false, false] = .slice bo 0 (j + 1) (j + 1) ∧ s.get [false, true, false] = xa ∧ s.get [true, true, false] = xr ∧ s.get [false, false, true] = G ((j + 1 : Nat) : Int) ∧ s.get [true, false, true] = .slice H.size 0 (j + 2) (j + 2) ∧ s.get [false, true, true] = G y ∧ s.get [true, true, true] = G z ∧ s.get [false, false, false, false] = G ((k + 1 : Nat) : Int) ∧ h = H.plus [.cells 1 (j + 2) cs]) .normal (fun s h => s.get [] = G lot ∧ s.get [false] = G bad ∧ s.get [false, true] = .ptr b5 0 2 ∧ s.get [true, false, false] = .slice bo 0 (j + 1) (j + 1) ∧ s.get [false, true, false] = xa ∧ s.get [true, true, false] = xr ∧ s.get [false, false, true] = G ((j + 1 : Nat) : Int) ∧ s.get [true, false, true] = .slice H.size 0 (j + 2) (j + 2) ∧ s.get [false, true, true] = G y ∧ s.get [true, true, true] = G z ∧ s.get [false, false, false, false] = G ((k + 1 : Nat) : Int) ∧ h = H.plus [.cells 1 (j + 2) cs2]) := Tr.region fun s h hp => by
        obtain ⟨g0, g1, g2, g3, g4, g5, g6, g7, g8, g9, g10, rfl⟩ := hp
        simp (disch := first | omega | exact getEq rfl | exact getO0 | exact Nat.le_of_ble_eq_true rfl) [-evDraw_c, c42_o9, c42_o10, c42_o11, c42_o12, came_some, goI, List.getElem?_cons_zero, List.getElem?_cons_succ, kn, keep, app_growP, app_noneP, plus_N, plus_at0, put_plus0, upd_N, upd_size, putAt, AV.cells, fillA, loadA, takeA, mk, Eff.isAll, Eff.isNone, Eff.commutes, Eff.spares, okPair, apart, eqAgg, fits, LK.fits, allEq, aveq, eqk, mmA, beqT, wrapI, idxI, tdivI, tmodI, decT, decF, ibT, ibF, inT, inF, evScope_c, if_pos, if_neg, g0, g1, g2, g3, g4, g5, g6, g7, g8, g9, g10, Go.Proofs.Ytlkgpcfhpeilhaa.Ev.evDraw_0, fo', x0, x0', x1, x1', p1, p2, z1, y1, ek]
      exact Tr.post (fun s h q => by obtain ⟨q0, q1, q2, q3, q4, q5, q6, q7, q8, q9, q10, q11⟩ := q; exact ⟨⟨q0, q1, q2, q3, q4, q5, q6, q7, q8, q9, q10⟩, q11⟩) (Tr.pre (fun s h q => by obtain ⟨⟨q0, q1, q2, q3, q4, q5, q6, q7, q8, q9, q10⟩, q11⟩ := q; exact ⟨q0, q1, q2, q3, q4, q5, q6, q7, q8, q9, q10, q11⟩) t)
    · have e0 : opn A R j (k + 1) = 0 := opn_gt A R (by omega)
      rw [e, e0, Nat.zero_add]
      generalize opn A R j k = o1 at *
      have p2 := pp cs (G (o1 : Int)) ls
      have c0' : ∀ h : k + 1 < cs.length, cs[k + 1] = G 0 := fun h => by rw [List.getElem?_eq_getElem h] at c0; exact Option.some.inj c0
      generalize cs.set (k + 1) (G (o1 : Int)) = cs2 at *
      have t : Tr tbl J ((.seq (.seq c42_o9 (.cond (.s [false, false, true, false, false]) c42_o10 .skip)) (.seq c42_o11 (.cond (.s [true, false, true, true, false]) c42_o12 .skip)))) (fun s h => s.get [] = G lot ∧ s.get [false] = G bad ∧ s.get [false, true] = .ptr b5 0 2 ∧ s.get [true, false, false] = .slice bo 0 (j + 1) (j + 1) ∧ s.get [false, true, false] = xa ∧ s.get [true, true, false] = xr ∧ s.get [false, false, true] = G ((j + 1 : Nat) : Int) ∧ s.get [true, false, true] = .slice H.size 0 (j + 2) (j + 2) ∧ s.get [false, true, true] = G y ∧ s.get [true, true, true] = G z ∧ s.get [false, false, false, false] = G ((k + 1 : Nat) : Int) ∧ h = H.plus [.cells 1 (j + 2) cs]) .normal (fun s h => s.get [] = G lot ∧ s.get [false] = G bad ∧ s.get [false, true] = .ptr b5 0 2 ∧ s.get [true, false, false] = .slice bo 0 (j + 1) (j + 1) ∧ s.get [false, true, false] = xa ∧ s.get [true, true, false] = xr ∧ s.get [false, false, true] = G ((j + 1 : Nat) : Int) ∧ s.get [true, false, true] = .slice H.size 0 (j + 2) (j + 2) ∧ s.get [false, true, true] = G y ∧ s.get [true, true, true] = G z ∧ s.get [false, false, false, false] = G ((k + 1 : Nat) : Int) ∧ h = H.plus [.cells 1 (j + 2) cs2]) := Tr.region fun s h hp => by
        obtain ⟨g0, g1, g2, g3, g4, g5, g6, g7, g8, g9, g10, rfl⟩ := hp
        simp (disch := first | omega | exact getEq rfl | exact getO0 | exact Nat.le_of_ble_eq_true rfl) [-evDraw_c, c42_o9, c42_o10, c42_o11, c42_o12, came_some, goI, List.getElem?_cons_zero, List.getElem?_cons_succ, kn, keep, app_growP, app_noneP, plus_N, plus_at0, put_plus0, upd_N, upd_size, putAt, AV.cells, fillA, loadA, takeA, mk, Eff.isAll, Eff.isNone, Eff.commutes, Eff.spares, okPair, apart, eqAgg, fits, LK.fits, allEq, aveq, eqk, mmA, beqT, wrapI, idxI, tdivI, tmodI, decT, decF, ibT, ibF, inT, inF, evScope_c, if_pos, if_neg, g0, g1, g2, g3, g4, g5, g6, g7, g8, g9, g10, Go.Proofs.Ytlkgpcfhpeilhaa.Ev.evDraw_0, fo', x1, x1', p2, c0, c0', ek]
      exact Tr.post (fun s h q => by obtain ⟨q0, q1, q2, q3, q4, q5, q6, q7, q8, q9, q10, q11⟩ := q; exact ⟨⟨q0, q1, q2, q3, q4, q5, q6, q7, q8, q9, q10⟩, q11⟩) (Tr.pre (fun s h q => by obtain ⟨⟨q0, q1, q2, q3, q4, q5, q6, q7, q8, q9, q10⟩, q11⟩ := q; exact ⟨q0, q1, q2, q3, q4, q5, q6, q7, q8, q9, q10, q11⟩) t)

theorem S42_pre {b5 bo S : Nat} {xa xr : AV} {y z : Nat} {J : CallF} {c : CCode} {e : AExit} {Q : SP} {X : Heap}
    (t : Tr tbl J c (fun s h => s.get [] = G lot ∧ s.get [false] = G bad ∧ s.get [false, true] = .ptr b5 0 2 ∧ s.get [true, false, false] = .slice bo 0 (j + 1) (j + 1) ∧ s.get [false, true, false] = xa ∧ s.get [true, true, false] = xr ∧ s.get [false, false, true] = G ((j + 1 : Nat) : Int) ∧ s.get [true, false, true] = .slice S 0 (j + 2) (j + 2) ∧ s.get [false, true, true] = G y ∧ s.get [true, true, true] = G z ∧ s.get [false, false, false, false] = G m ∧ h = X) e Q) :
    Tr tbl J c (fun s h => S42 lot bad b5 bo S j xa xr y z m s h ∧ h = X) e Q :=
  Tr.pre (fun s h q => by obtain ⟨⟨q0, q1, q2, q3, q4, q5, q6, q7, q8, q9, q10⟩, q11⟩ := q; exact ⟨q0, q1, q2, q3, q4, q5, q6, q7, q8, q9, q10, q11⟩) t
theorem S42_post {b5 bo S m' : Nat} {xa xr : AV} {y z : Nat} {J : CallF} {c : CCode} {e : AExit} {P : SP} {X : Heap}
    (t : Tr tbl J c P e (fun s h => s.get [] = G lot ∧ s.get [false] = G bad ∧ s.get [false, true] = .ptr b5 0 2 ∧ s.get [true, false, false] = .slice bo 0 (j + 1) (j + 1) ∧ s.get [false, true, false] = xa ∧ s.get [true, true, false] = xr ∧ s.get [false, false, true] = G ((j + 1 : Nat) : Int) ∧ s.get [true, false, true] = .slice S 0 (j + 2) (j + 2) ∧ s.get [false, true, true] = G y ∧ s.get [true, true, true] = G z ∧ s.get [false, false, false, false] = G m' ∧ h = X)) :
    Tr tbl J c P e (fun s h => S42 lot bad b5 bo S j xa xr y z m' s h ∧ h = X) :=
  Tr.post (fun s h q => by obtain ⟨q0, q1, q2, q3, q4, q5, q6, q7, q8, q9, q10, q11⟩ := q; exact ⟨⟨q0, q1, q2, q3, q4, q5, q6, q7, q8, q9, q10⟩, q11⟩) t

abbrev K65' (J : CallF) : Prop := ∀ (h : Heap) (bA bR nA vA nR vR j : Nat) (k a r : Int) (c1 c2 : List AV), j < 1000 → j < nA → j < nR → h.get bA = .cells 1 vA c1 → h.get bR = .cells 1 vR c2 → c1[j]? = some (G a) → c2[j]? = some (G r) → J 65 [.agg [.slice bA 0 nA vA, .slice bR 0 nR vR], G ((j + 1 : Nat) : Int), G k] h = some (G (decZ a r k), [], false)

theorem rc_2 (J : CallF) (K : Kn J) (k65 : K65' J) {b5 bo bA vA bR vR n : Nat} {xa xr : AV} {y z : Nat} (H : Heap) (hm : m < j + 2) (hj : j < n) (hn : n ≤ 36) (hl : lot ≤ 36) (hjl : (j : Int) + 1 ≤ lot) (hb0 : 0 ≤ bad ∧ bad ≤ lot) {cs ca cr : List AV} (f5 : H.get b5 = .cells 0 2 [.slice bA 0 n vA, .slice bR 0 n vR]) (fA : H.get bA = .cells 1 vA ca) (fR : H.get bR = .cells 1 vR cr) (eA : ca[j]? = some (G (A j))) (eR : cr[j]? = some (G (R j))) (ls : cs.length = j + 2) (c0 : cs[m]? = some (G (nx (opn A R j) m))) (hy : y ≤ 1000000000000) (hz : z ≤ 1000000000000) :
    Tr tbl J (.seq c42_o13 (.seq c42_o14 (.block 4 (.seq c42_o15 (.cond (.s [true, true, false, true, false, false]) (.seq c42_o16 c42_o17) (.seq c42_o18 (.cond (.s [true, true, false, false, true, false]) (.seq c42_o19 c42_o20) .skip))))))) (fun s h => S42 lot bad b5 bo H.size j xa xr y z m s h ∧ h = H.plus [.cells 1 (j + 2) cs]) .normal (fun s h => S42 lot bad b5 bo H.size j xa xr (y + if (m : Int) ≤ A j then tk lot bad A R j m else 0) (z + if (m : Int) ≤ A j then 0 else if R j ≤ m then tk lot bad A R j m else 0) m s h ∧ h = H.plus [.cells 1 (j + 2) (cs.set m (G (opn A R (j + 1) m)))]) := by
  have ek := tk_all (lot := lot) (bad := bad) (A := A) (R := R) j m hjl hb0.1 hb0.2
  have e36 := ofZ_36 (lot := lot) (bad := bad) hl
  have enx := nx_big A R (i := j) (by omega) m
  have eZ : ofZ (lot - j - 1) (bad - m) ≤ 68719476736 := Nat.le_trans (ofZ_le _ _ 36 (by omega)) (by decide)
  have hk := k65 (H.plus [.cells 1 (j + 2) cs]) bA bR n vA n vR j m (A j) (R j) ca cr (by omega) hj hj (plus_keep _ fA (by simp)) (plus_keep _ fR (by simp)) eA eR
  have k29 := fun h => K.k29 h (lot - (j + 1 : Nat)) (bad - m) (by omega)
  rw [show lot - ((j + 1 : Nat) : Int) = lot - j - 1 by omega] at k29
  have et : tk lot bad A R j m = nx (opn A R j) m * ofZ (lot - j - 1) (bad - m) := rfl
  have eo : opn A R (j + 1) m = if (m : Int) ≤ A j then 0 else if R j ≤ m then 0 else nx (opn A R j) m := rfl
  rw [et] at ek
  rw [et, eo]
  have f5' : ∀ c : List AV, (H.plus [.cells 1 (j + 2) c]).get b5 = .cells 0 2 [.slice bA 0 n vA, .slice bR 0 n vR] := fun c => plus_keep _ f5 (by simp)
  have pp : ∀ (v : AV), Eff.app (.put H.size (j + 2) m [v]) (H.plus [.cells 1 (j + 2) cs]) = some (H.plus [.cells 1 (j + 2) (cs.set m v)]) := fun v => put_p1 H _ _ _ _ _ _ (by omega)
  have p0 := pp (G 0)
  clear pp
  have c0' : ∀ h : m < cs.length, cs[m] = G (nx (opn A R j) m) := fun h => by rw [List.getElem?_eq_getElem h] at c0; exact Option.some.inj c0
  have cself : cs.set m (G (nx (opn A R j) m)) = cs := by
    apply List.ext_getElem?
    intro i
    by_cases hi : i = m
    · subst hi; rw [List.getElem?_set_self (by omega), c0]
    · rw [List.getElem?_set_ne (fun e => hi e.symm)]
  have ew : ((nx (opn A R j) m * ofZ (lot - j - 1) (bad - m) : Nat) : Int) = (nx (opn A R j) m : Int) * ofZ (lot - j - 1) (bad - m) := by rw [Int.natCast_mul]
  clear et eo fA fR eA eR
  generalize nx (opn A R j) m = p at *
  generalize ofZ (lot - j - 1) (bad - m) = q at *
  obtain ⟨w, hw⟩ : ∃ w, p * q = w := ⟨_, rfl⟩
  rw [hw] at ek ew
  rw [hw]
  have ew' : (p : Int) * q = w := ew.symm
  have t13 : Tr tbl J c42_o13 (fun s h => S42 lot bad b5 bo H.size j xa xr y z m s h ∧ h = H.plus [.cells 1 (j + 2) cs]) .normal (fun s h => (S42 lot bad b5 bo H.size j xa xr y z m s h ∧ h = H.plus [.cells 1 (j + 2) cs]) ∧ s.get [true, false, false, false] = G w) := by
    refine S42_pre ?_
    have t : Tr tbl J (c42_o13) (fun s h => s.get [] = G lot ∧ s.get [false] = G bad ∧ s.get [false, true] = .ptr b5 0 2 ∧ s.get [true, false, false] = .slice bo 0 (j + 1) (j + 1) ∧ s.get [false, true, false] = xa ∧ s.get [true, true, false] = xr ∧ s.get [false, false, true] = G ((j + 1 : Nat) : Int) ∧ s.get [true, false, true] = .slice H.size 0 (j + 2) (j + 2) ∧ s.get [false, true, true] = G y ∧ s.get [true, true, true] = G z ∧ s.get [false, false, false, false] = G m ∧ h = H.plus [.cells 1 (j + 2) cs]) .normal (fun s h => s.get [] = G lot ∧ s.get [false] = G bad ∧ s.get [false, true] = .ptr b5 0 2 ∧ s.get [true, false, false] = .slice bo 0 (j + 1) (j + 1) ∧ s.get [false, true, false] = xa ∧ s.get [true, true, false] = xr ∧ s.get [false, false, true] = G ((j + 1 : Nat) : Int) ∧ s.get [true, false, true] = .slice H.size 0 (j + 2) (j + 2) ∧ s.get [false, true, true] = G y ∧ s.get [true, true, true] = G z ∧ s.get [false, false, false, false] = G m ∧ s.get [true, false, false, false] = G w ∧ h = H.plus [.cells 1 (j + 2) cs]) := Tr.region fun s h hp => by
      obtain ⟨g0, g1, g2, g3, g4, g5, g6, g7, g8, g9, g10, rfl⟩ := hp
      have es : lot - ((j : Int) + 1) = lot - j - 1 := by omega
      simp (disch := first | omega | exact getEq rfl | exact getO0 | exact Nat.le_of_ble_eq_true rfl) [-evDraw_c, c42_o13, came_some, goI, List.getElem?_cons_zero, List.getElem?_cons_succ, kn, keep, app_growP, app_noneP, plus_N, plus_at0, put_plus0, upd_N, upd_size, putAt, AV.cells, fillA, loadA, takeA, mk, Eff.isAll, Eff.isNone, Eff.commutes, Eff.spares, okPair, apart, eqAgg, fits, LK.fits, allEq, aveq, eqk, mmA, beqT, wrapI, idxI, tdivI, tmodI, decT, decF, ibT, ibF, inT, inF, evScope_c, if_pos, if_neg, g0, g1, g2, g3, g4, g5, g6, g7, g8, g9, g10, Go.Proofs.Ytlkgpcfhpeilhaa.Ev.evDraw_0, c0, c0', k29, es, ew']
    exact Tr.post (fun s h q => by obtain ⟨q0, q1, q2, q3, q4, q5, q6, q7, q8, q9, q10, q11, q12⟩ := q; exact ⟨⟨⟨q0, q1, q2, q3, q4, q5, q6, q7, q8, q9, q10⟩, q12⟩, q11⟩) t
  refine Tr.seq t13 ?_
  refine Tr.pre (fun s h q => by obtain ⟨⟨⟨q0, q1, q2, q3, q4, q5, q6, q7, q8, q9, q10⟩, q12⟩, q11⟩ := q; exact ⟨q0, q1, q2, q3, q4, q5, q6, q7, q8, q9, q10, q11, q12⟩) ?_ (P := (fun s h => s.get [] = G lot ∧ s.get [false] = G bad ∧ s.get [false, true] = .ptr b5 0 2 ∧ s.get [true, false, false] = .slice bo 0 (j + 1) (j + 1) ∧ s.get [false, true, false] = xa ∧ s.get [true, true, false] = xr ∧ s.get [false, false, true] = G ((j + 1 : Nat) : Int) ∧ s.get [true, false, true] = .slice H.size 0 (j + 2) (j + 2) ∧ s.get [false, true, true] = G y ∧ s.get [true, true, true] = G z ∧ s.get [false, false, false, false] = G m ∧ s.get [true, false, false, false] = G w ∧ h = H.plus [.cells 1 (j + 2) cs]))
  refine S42_post ?_
  have ej : ((j + 1 : Nat) : Int) = (j : Int) + 1 := by omega
  rw [ej] at hk
  by_cases h1 : (m : Int) ≤ A j
  · rw [show decZ (A j) (R j) m = 1 from if_pos h1] at hk
    rw [if_pos h1, if_pos h1, if_pos h1]
    have t : Tr tbl J ((.seq c42_o14 (.block 4 (.seq c42_o15 (.cond (.s [true, true, false, true, false, false]) (.seq c42_o16 c42_o17) (.seq c42_o18 (.cond (.s [true, true, false, false, true, false]) (.seq c42_o19 c42_o20) .skip))))))) (fun s h => s.get [] = G lot ∧ s.get [false] = G bad ∧ s.get [false, true] = .ptr b5 0 2 ∧ s.get [true, false, false] = .slice bo 0 (j + 1) (j + 1) ∧ s.get [false, true, false] = xa ∧ s.get [true, true, false] = xr ∧ s.get [false, false, true] = G ((j + 1 : Nat) : Int) ∧ s.get [true, false, true] = .slice H.size 0 (j + 2) (j + 2) ∧ s.get [false, true, true] = G y ∧ s.get [true, true, true] = G z ∧ s.get [false, false, false, false] = G m ∧ s.get [true, false, false, false] = G w ∧ h = H.plus [.cells 1 (j + 2) cs]) .normal (fun s h => s.get [] = G lot ∧ s.get [false] = G bad ∧ s.get [false, true] = .ptr b5 0 2 ∧ s.get [true, false, false] = .slice bo 0 (j + 1) (j + 1) ∧ s.get [false, true, false] = xa ∧ s.get [true, true, false] = xr ∧ s.get [false, false, true] = G ((j + 1 : Nat) : Int) ∧ s.get [true, false, true] = .slice H.size 0 (j + 2) (j + 2) ∧ s.get [false, true, true] = G ((y + w : Nat) : Int) ∧ s.get [true, true, true] = G ((z + 0 : Nat) : Int) ∧ s.get [false, false, false, false] = G m ∧ h = H.plus [.cells 1 (j + 2) (cs.set m (G ((0 : Nat) : Int)))]) := Tr.region fun s h hp => by
      obtain ⟨g0, g1, g2, g3, g4, g5, g6, g7, g8, g9, g10, g11, rfl⟩ := hp
      simp (disch := first | omega | exact getEq rfl | exact getO0 | exact Nat.le_of_ble_eq_true rfl) [c42_o14, c42_o15, c42_o16, c42_o17, came_some, goI, List.getElem?_cons_zero, List.getElem?_cons_succ, kn, keep, app_growP, app_noneP, plus_N, plus_at0, put_plus0, upd_N, upd_size, putAt, AV.cells, fillA, loadA, takeA, mk, Eff.isAll, Eff.isNone, Eff.commutes, Eff.spares, okPair, apart, eqAgg, fits, LK.fits, allEq, aveq, eqk, mmA, beqT, wrapI, idxI, tdivI, tmodI, decT, decF, ibT, ibF, inT, inF, evScope_c, if_pos, if_neg, g0, g1, g2, g3, g4, g5, g6, g7, g8, g9, g10, g11, f5', hk, p0]
    exact t
  · rw [if_neg h1, if_neg h1, if_neg h1]
    by_cases h2 : R j ≤ m
    · rw [show decZ (A j) (R j) m = -1 by unfold decZ; rw [if_neg h1, if_pos h2]] at hk
      rw [if_pos h2, if_pos h2]
      have t : Tr tbl J ((.seq c42_o14 (.block 4 (.seq c42_o15 (.cond (.s [true, true, false, true, false, false]) (.seq c42_o16 c42_o17) (.seq c42_o18 (.cond (.s [true, true, false, false, true, false]) (.seq c42_o19 c42_o20) .skip))))))) (fun s h => s.get [] = G lot ∧ s.get [false] = G bad ∧ s.get [false, true] = .ptr b5 0 2 ∧ s.get [true, false, false] = .slice bo 0 (j + 1) (j + 1) ∧ s.get [false, true, false] = xa ∧ s.get [true, true, false] = xr ∧ s.get [false, false, true] = G ((j + 1 : Nat) : Int) ∧ s.get [true, false, true] = .slice H.size 0 (j + 2) (j + 2) ∧ s.get [false, true, true] = G y ∧ s.get [true, true, true] = G z ∧ s.get [false, false, false, false] = G m ∧ s.get [true, false, false, false] = G w ∧ h = H.plus [.cells 1 (j + 2) cs]) .normal (fun s h => s.get [] = G lot ∧ s.get [false] = G bad ∧ s.get [false, true] = .ptr b5 0 2 ∧ s.get [true, false, false] = .slice bo 0 (j + 1) (j + 1) ∧ s.get [false, true, false] = xa ∧ s.get [true, true, false] = xr ∧ s.get [false, false, true] = G ((j + 1 : Nat) : Int) ∧ s.get [true, false, true] = .slice H.size 0 (j + 2) (j + 2) ∧ s.get [false, true, true] = G ((y + 0 : Nat) : Int) ∧ s.get [true, true, true] = G ((z + w : Nat) : Int) ∧ s.get [false, false, false, false] = G m ∧ h = H.plus [.cells 1 (j + 2) (cs.set m (G ((0 : Nat) : Int)))]) := Tr.region fun s h hp => by
        obtain ⟨g0, g1, g2, g3, g4, g5, g6, g7, g8, g9, g10, g11, rfl⟩ := hp
        simp (disch := first | omega | exact getEq rfl | exact getO0 | exact Nat.le_of_ble_eq_true rfl) [c42_o14, c42_o15, c42_o18, c42_o19, c42_o20, came_some, goI, List.getElem?_cons_zero, List.getElem?_cons_succ, kn, keep, app_growP, app_noneP, plus_N, plus_at0, put_plus0, upd_N, upd_size, putAt, AV.cells, fillA, loadA, takeA, mk, Eff.isAll, Eff.isNone, Eff.commutes, Eff.spares, okPair, apart, eqAgg, fits, LK.fits, allEq, aveq, eqk, mmA, beqT, wrapI, idxI, tdivI, tmodI, decT, decF, ibT, ibF, inT, inF, evScope_c, if_pos, if_neg, g0, g1, g2, g3, g4, g5, g6, g7, g8, g9, g10, g11, f5', hk, p0]
      exact t
    · rw [show decZ (A j) (R j) m = 0 by unfold decZ; rw [if_neg h1, if_neg h2]] at hk
      rw [if_neg h2, if_neg h2, cself]
      have t : Tr tbl J ((.seq c42_o14 (.block 4 (.seq c42_o15 (.cond (.s [true, true, false, true, false, false]) (.seq c42_o16 c42_o17) (.seq c42_o18 (.cond (.s [true, true, false, false, true, false]) (.seq c42_o19 c42_o20) .skip))))))) (fun s h => s.get [] = G lot ∧ s.get [false] = G bad ∧ s.get [false, true] = .ptr b5 0 2 ∧ s.get [true, false, false] = .slice bo 0 (j + 1) (j + 1) ∧ s.get [false, true, false] = xa ∧ s.get [true, true, false] = xr ∧ s.get [false, false, true] = G ((j + 1 : Nat) : Int) ∧ s.get [true, false, true] = .slice H.size 0 (j + 2) (j + 2) ∧ s.get [false, true, true] = G y ∧ s.get [true, true, true] = G z ∧ s.get [false, false, false, false] = G m ∧ s.get [true, false, false, false] = G w ∧ h = H.plus [.cells 1 (j + 2) cs]) .normal (fun s h => s.get [] = G lot ∧ s.get [false] = G bad ∧ s.get [false, true] = .ptr b5 0 2 ∧ s.get [true, false, false] = .slice bo 0 (j + 1) (j + 1) ∧ s.get [false, true, false] = xa ∧ s.get [true, true, false] = xr ∧ s.get [false, false, true] = G ((j + 1 : Nat) : Int) ∧ s.get [true, false, true] = .slice H.size 0 (j + 2) (j + 2) ∧ s.get [false, true, true] = G ((y + 0 : Nat) : Int) ∧ s.get [true, true, true] = G ((z + 0 : Nat) : Int) ∧ s.get [false, false, false, false] = G m ∧ h = H.plus [.cells 1 (j + 2) cs]) := Tr.region fun s h hp => by
        obtain ⟨g0, g1, g2, g3, g4, g5, g6, g7, g8, g9, g10, g11, rfl⟩ := hp
        simp (disch := first | omega | exact getEq rfl | exact getO0 | exact Nat.le_of_ble_eq_true rfl) [c42_o14, c42_o15, c42_o18, came_some, goI, List.getElem?_cons_zero, List.getElem?_cons_succ, kn, keep, app_growP, app_noneP, plus_N, plus_at0, put_plus0, upd_N, upd_size, putAt, AV.cells, fillA, loadA, takeA, mk, Eff.isAll, Eff.isNone, Eff.commutes, Eff.spares, okPair, apart, eqAgg, fits, LK.fits, allEq, aveq, eqk, mmA, beqT, wrapI, idxI, tdivI, tmodI, decT, decF, ibT, ibF, inT, inF, evScope_c, if_pos, if_neg, g0, g1, g2, g3, g4, g5, g6, g7, g8, g9, g10, g11, f5', hk]
      exact t

theorem rc_in (J : CallF) (K : Kn J) (k65 : K65' J) {b5 bo bA vA bR vR n : Nat} {xa xr : AV} (H : Heap) (hj : j < n) (hn : n ≤ 36) (hl : lot ≤ 36) (hjl : (j : Int) + 1 ≤ lot) (hb0 : 0 ≤ bad ∧ bad ≤ lot) {ca cr : List AV} (f5 : H.get b5 = .cells 0 2 [.slice bA 0 n vA, .slice bR 0 n vR]) (fA : H.get bA = .cells 1 vA ca) (fR : H.get bR = .cells 1 vR cr) (eA : ca[j]? = some (G (A j))) (eR : cr[j]? = some (G (R j))) (fo : H.get bo = .cells 1 (j + 1) (zs (fun k => (opn A R j k : Int)) (j + 1))) :
    Tr tbl J (.seq c42_o7 (.block 2 c42_l0)) (fun s h => s.get [] = G lot ∧ s.get [false] = G bad ∧ s.get [false, true] = .ptr b5 0 2 ∧ s.get [true, false, false] = .slice bo 0 (j + 1) (j + 1) ∧ s.get [false, true, false] = xa ∧ s.get [true, true, false] = xr ∧ s.get [false, false, true] = G ((j + 1 : Nat) : Int) ∧ s.get [true, false, true] = .slice H.size 0 (j + 2) (j + 2) ∧ s.get [false, true, true] = G 0 ∧ s.get [true, true, true] = G 0 ∧ h = H.plus [.cells 1 (j + 2) (nxC A R j 0)]) .normal
      (fun s h => s.get [] = G lot ∧ s.get [false] = G bad ∧ s.get [false, true] = .ptr b5 0 2 ∧ s.get [false, true, false] = xa ∧ s.get [true, true, false] = xr ∧ s.get [false, false, true] = G ((j + 1 : Nat) : Int) ∧ s.get [true, false, true] = .slice H.size 0 (j + 2) (j + 2) ∧ s.get [false, true, true] = G (yC lot bad A R j) ∧ s.get [true, true, true] = G (nC lot bad A R j) ∧ h = H.plus [.cells 1 (j + 2) (nxC A R j (j + 2))]) := by
  have ho : ∀ k, k < j + 1 → (zs (fun k => (opn A R j k : Int)) (j + 1))[k]? = some (G (opn A R j k)) := fun k hk => by rw [zs_at, if_pos hk]
  generalize zs (fun k => (opn A R j k : Int)) (j + 1) = co at *
  have hbig : ∀ k, opn A R j k ≤ 68719476736 := fun k => opn_big A R (by omega) k
  have e36 := ofZ_36 (lot := lot) (bad := bad) hl
  obtain ⟨c0, hc0⟩ : ∃ c, nxC A R j 0 = c := ⟨_, rfl⟩
  have t0 : Tr tbl J (c42_o7) (fun s h => s.get [] = G lot ∧ s.get [false] = G bad ∧ s.get [false, true] = .ptr b5 0 2 ∧ s.get [true, false, false] = .slice bo 0 (j + 1) (j + 1) ∧ s.get [false, true, false] = xa ∧ s.get [true, true, false] = xr ∧ s.get [false, false, true] = G ((j + 1 : Nat) : Int) ∧ s.get [true, false, true] = .slice H.size 0 (j + 2) (j + 2) ∧ s.get [false, true, true] = G 0 ∧ s.get [true, true, true] = G 0 ∧ h = H.plus [.cells 1 (j + 2) c0]) .normal (fun s h => s.get [] = G lot ∧ s.get [false] = G bad ∧ s.get [false, true] = .ptr b5 0 2 ∧ s.get [true, false, false] = .slice bo 0 (j + 1) (j + 1) ∧ s.get [false, true, false] = xa ∧ s.get [true, true, false] = xr ∧ s.get [false, false, true] = G ((j + 1 : Nat) : Int) ∧ s.get [true, false, true] = .slice H.size 0 (j + 2) (j + 2) ∧ s.get [false, true, true] = G ((0 : Nat) : Int) ∧ s.get [true, true, true] = G ((0 : Nat) : Int) ∧ s.get [false, false, false, false] = G ((0 : Nat) : Int) ∧ h = H.plus [.cells 1 (j + 2) c0]) := Tr.region fun s h hp => by
    obtain ⟨g0, g1, g2, g3, g4, g5, g6, g7, g8, g9, rfl⟩ := hp
    simp (disch := first | omega | exact getEq rfl | exact getO0 | exact Nat.le_of_ble_eq_true rfl) [c42_o7, came_some, goI, List.getElem?_cons_zero, List.getElem?_cons_succ, kn, keep, app_growP, app_noneP, plus_N, plus_at0, put_plus0, upd_N, upd_size, putAt, AV.cells, fillA, loadA, takeA, mk, Eff.isAll, Eff.isNone, Eff.commutes, Eff.spares, okPair, apart, eqAgg, fits, LK.fits, allEq, aveq, eqk, mmA, beqT, wrapI, idxI, tdivI, tmodI, decT, decF, ibT, ibF, inT, inF, evScope_c, if_pos, if_neg, g0, g1, g2, g3, g4, g5, g6, g7, g8, g9]
  rw [← hc0] at t0
  have yN : yS lot bad A R j (j + 2) = yC lot bad A R j := rfl
  have nN : nS lot bad A R j (j + 2) = nC lot bad A R j := rfl
  rw [← yN, ← nN]
  refine Tr.seq (S42_post t0) (Tr.block (Tr.rounds (P := fun m => fun s h => S42 lot bad b5 bo H.size j xa xr (yS lot bad A R j m) (nS lot bad A R j m) m s h ∧ h = H.plus [.cells 1 (j + 2) (nxC A R j m)]) (M := j + 2) (fun m hm => ?_) ?_ (by simp) 0 (by omega)))
  · have hy := yn_all (lot := lot) (bad := bad) (A := A) (R := R) j m hjl hb0.1 hb0.2
    have l1 : (nxC A R j m).length = j + 2 := nxC_len
    have g1 : (nxC A R j m)[m]? = some (G 0) := nxC_at hm
    have eset : ((nxC A R j m).set m (G (nx (opn A R j) m))).set m (G (opn A R (j + 1) m)) = nxC A R j (m + 1) := by rw [List.set_set, nxC_set hm]
    have y1 : yS lot bad A R j (m + 1) = yS lot bad A R j m + if (m : Int) ≤ A j then tk lot bad A R j m else 0 := by
      rw [yS_sm, yS_sm]; rfl
    have n1 : nS lot bad A R j (m + 1) = nS lot bad A R j m + if (m : Int) ≤ A j then 0 else if R j ≤ m then tk lot bad A R j m else 0 := by
      rw [nS_sm, nS_sm]; rfl
    have r1 := rc_1 (lot := lot) (bad := bad) (b5 := b5) (xa := xa) (xr := xr) (y := yS lot bad A R j m) (z := nS lot bad A R j m) J H hm (by omega) fo ho hbig l1 g1
    have r2 := rc_2 (bo := bo) (xa := xa) (xr := xr) (y := yS lot bad A R j m) (z := nS lot bad A R j m) J K k65 H hm hj hn hl hjl hb0 f5 fA fR eA eR (cs := (nxC A R j m).set m (G (nx (opn A R j) m))) (by rw [List.length_set, l1]) (List.getElem?_set_self (by omega)) (by omega) (by omega)
    rw [eset, ← y1, ← n1] at r2
    have y2 := yn_all (lot := lot) (bad := bad) (A := A) (R := R) j (m + 1) hjl hb0.1 hb0.2
    generalize yS lot bad A R j (m + 1) = ya at *
    generalize nS lot bad A R j (m + 1) = na at *
    generalize yS lot bad A R j m = ym at *
    generalize nS lot bad A R j m = nm at *
    generalize nxC A R j (m + 1) = cb at *
    generalize nxC A R j m = cm at *
    have ta : Tr tbl J (.trim L42i (.seq c42_o8 (.cond (.s [true, true, true, true]) .skip (.exit 2)))) (fun s h => S42 lot bad b5 bo H.size j xa xr ym nm m s h ∧ h = H.plus [.cells 1 (j + 2) cm]) .normal (fun s h => S42 lot bad b5 bo H.size j xa xr ym nm m s h ∧ h = H.plus [.cells 1 (j + 2) cm]) := by
      refine S42_pre (S42_post ?_)
      have t : Tr tbl J ((.trim L42i (.seq c42_o8 (.cond (.s [true, true, true, true]) .skip (.exit 2))))) (fun s h => s.get [] = G lot ∧ s.get [false] = G bad ∧ s.get [false, true] = .ptr b5 0 2 ∧ s.get [true, false, false] = .slice bo 0 (j + 1) (j + 1) ∧ s.get [false, true, false] = xa ∧ s.get [true, true, false] = xr ∧ s.get [false, false, true] = G ((j + 1 : Nat) : Int) ∧ s.get [true, false, true] = .slice H.size 0 (j + 2) (j + 2) ∧ s.get [false, true, true] = G ym ∧ s.get [true, true, true] = G nm ∧ s.get [false, false, false, false] = G m ∧ h = H.plus [.cells 1 (j + 2) cm]) .normal (fun s h => s.get [] = G lot ∧ s.get [false] = G bad ∧ s.get [false, true] = .ptr b5 0 2 ∧ s.get [true, false, false] = .slice bo 0 (j + 1) (j + 1) ∧ s.get [false, true, false] = xa ∧ s.get [true, true, false] = xr ∧ s.get [false, false, true] = G ((j + 1 : Nat) : Int) ∧ s.get [true, false, true] = .slice H.size 0 (j + 2) (j + 2) ∧ s.get [false, true, true] = G ym ∧ s.get [true, true, true] = G nm ∧ s.get [false, false, false, false] = G m ∧ h = H.plus [.cells 1 (j + 2) cm]) := Tr.region fun s h hp => by
        obtain ⟨g0, g1, g2, g3, g4, g5, g6, g7, g8, g9, g10, rfl⟩ := hp
        simp (disch := first | omega | exact getEq rfl | exact getO0 | exact Nat.le_of_ble_eq_true rfl) [c42_o8, came_some, goI, List.getElem?_cons_zero, List.getElem?_cons_succ, kn, keep, app_growP, app_noneP, plus_N, plus_at0, put_plus0, upd_N, upd_size, putAt, AV.cells, fillA, loadA, takeA, mk, Eff.isAll, Eff.isNone, Eff.commutes, Eff.spares, okPair, apart, eqAgg, fits, LK.fits, allEq, aveq, eqk, mmA, beqT, wrapI, idxI, tdivI, tmodI, decT, decF, ibT, ibF, inT, inF, evScope_c, if_pos, if_neg, g0, g1, g2, g3, g4, g5, g6, g7, g8, g9, g10]
      exact t
    have te : Tr tbl J c42_o21 (fun s h => S42 lot bad b5 bo H.size j xa xr ya na m s h ∧ h = H.plus [.cells 1 (j + 2) cb]) .normal (fun s h => S42 lot bad b5 bo H.size j xa xr ya na (m + 1) s h ∧ h = H.plus [.cells 1 (j + 2) cb]) := by
      refine S42_pre (S42_post ?_)
      have t : Tr tbl J (c42_o21) (fun s h => s.get [] = G lot ∧ s.get [false] = G bad ∧ s.get [false, true] = .ptr b5 0 2 ∧ s.get [true, false, false] = .slice bo 0 (j + 1) (j + 1) ∧ s.get [false, true, false] = xa ∧ s.get [true, true, false] = xr ∧ s.get [false, false, true] = G ((j + 1 : Nat) : Int) ∧ s.get [true, false, true] = .slice H.size 0 (j + 2) (j + 2) ∧ s.get [false, true, true] = G ya ∧ s.get [true, true, true] = G na ∧ s.get [false, false, false, false] = G m ∧ h = H.plus [.cells 1 (j + 2) cb]) .normal (fun s h => s.get [] = G lot ∧ s.get [false] = G bad ∧ s.get [false, true] = .ptr b5 0 2 ∧ s.get [true, false, false] = .slice bo 0 (j + 1) (j + 1) ∧ s.get [false, true, false] = xa ∧ s.get [true, true, false] = xr ∧ s.get [false, false, true] = G ((j + 1 : Nat) : Int) ∧ s.get [true, false, true] = .slice H.size 0 (j + 2) (j + 2) ∧ s.get [false, true, true] = G ya ∧ s.get [true, true, true] = G na ∧ s.get [false, false, false, false] = G ((m + 1 : Nat) : Int) ∧ h = H.plus [.cells 1 (j + 2) cb]) := Tr.region fun s h hp => by
        obtain ⟨g0, g1, g2, g3, g4, g5, g6, g7, g8, g9, g10, rfl⟩ := hp
        simp (disch := first | omega | exact getEq rfl | exact getO0 | exact Nat.le_of_ble_eq_true rfl) [c42_o21, came_some, goI, List.getElem?_cons_zero, List.getElem?_cons_succ, kn, keep, app_growP, app_noneP, plus_N, plus_at0, put_plus0, upd_N, upd_size, putAt, AV.cells, fillA, loadA, takeA, mk, Eff.isAll, Eff.isNone, Eff.commutes, Eff.spares, okPair, apart, eqAgg, fits, LK.fits, allEq, aveq, eqk, mmA, beqT, wrapI, idxI, tdivI, tmodI, decT, decF, ibT, ibF, inT, inF, evScope_c, if_pos, if_neg, g0, g1, g2, g3, g4, g5, g6, g7, g8, g9, g10]
      exact t
    exact Tr.trim_seq ta (Tr.seq (Tr.block_out (Tr.app2 r1 r2) (by simp)) te)
  · generalize yS lot bad A R j (j + 2) = ym at *
    generalize nS lot bad A R j (j + 2) = nm at *
    generalize nxC A R j (j + 2) = cm at *
    refine S42_pre ?_
    have t : Tr tbl J ((.trim L42i c42_b0)) (fun s h => s.get [] = G lot ∧ s.get [false] = G bad ∧ s.get [false, true] = .ptr b5 0 2 ∧ s.get [true, false, false] = .slice bo 0 (j + 1) (j + 1) ∧ s.get [false, true, false] = xa ∧ s.get [true, true, false] = xr ∧ s.get [false, false, true] = G ((j + 1 : Nat) : Int) ∧ s.get [true, false, true] = .slice H.size 0 (j + 2) (j + 2) ∧ s.get [false, true, true] = G ym ∧ s.get [true, true, true] = G nm ∧ s.get [false, false, false, false] = G ((j + 2 : Nat) : Int) ∧ h = H.plus [.cells 1 (j + 2) cm]) (.exit 2) (fun s h => s.get [] = G lot ∧ s.get [false] = G bad ∧ s.get [false, true] = .ptr b5 0 2 ∧ s.get [false, true, false] = xa ∧ s.get [true, true, false] = xr ∧ s.get [false, false, true] = G ((j + 1 : Nat) : Int) ∧ s.get [true, false, true] = .slice H.size 0 (j + 2) (j + 2) ∧ s.get [false, true, true] = G ym ∧ s.get [true, true, true] = G nm ∧ h = H.plus [.cells 1 (j + 2) cm]) := Tr.region fun s h hp => by
      obtain ⟨g0, g1, g2, g3, g4, g5, g6, g7, g8, g9, g10, rfl⟩ := hp
      simp (disch := first | omega | exact getEq rfl | exact getO0 | exact Nat.le_of_ble_eq_true rfl) [c42_b0, c42_o8, came_some, goI, List.getElem?_cons_zero, List.getElem?_cons_succ, kn, keep, app_growP, app_noneP, plus_N, plus_at0, put_plus0, upd_N, upd_size, putAt, AV.cells, fillA, loadA, takeA, mk, Eff.isAll, Eff.isNone, Eff.commutes, Eff.spares, okPair, apart, eqAgg, fits, LK.fits, allEq, aveq, eqk, mmA, beqT, wrapI, idxI, tdivI, tmodI, decT, decF, ibT, ibF, inT, inF, evScope_c, if_pos, if_neg, g0, g1, g2, g3, g4, g5, g6, g7, g8, g9, g10]
    exact t

/-! ### The lists of both -/
structure V42 (H2 h : Heap) (bo w : Nat) (co : List AV) (xa xr : AV) (La Lr : List Int) : Prop where
  k : Kp (fun _ => False) H2 h
  o : h.get bo = .cells 1 w co
  a : LS h xa La
  r : LS h xr Lr
  ob : H2.size ≤ bo
  da : ∀ q, blk xa = some q → H2.size ≤ q ∧ q ≠ bo ∧ blk xr ≠ some q
  dr : ∀ q, blk xr = some q → H2.size ≤ q ∧ q ≠ bo
theorem V42.open {H2 h : Heap} {bo w : Nat} {co : List AV} {xa xr : AV} {La Lr : List Int} (v : V42 H2 h bo w co xa xr La Lr) (w' : Nat) (c : List AV) : V42 H2 (h.plus [.cells 1 w' c]) h.size w' c xa xr La Lr :=
  ⟨v.k.trans (Kp.plus _ _), plus_at0 _ _ _ _ rfl, v.a.kp (M := fun _ => False) (Kp.plus _ _) (fun _ _ => id), v.r.kp (M := fun _ => False) (Kp.plus _ _) (fun _ _ => id), v.k.size,
    fun q hq => ⟨(v.da q hq).1, by have := v.a.lt hq; omega, (v.da q hq).2.2⟩, fun q hq => ⟨(v.dr q hq).1, by have := v.r.lt hq; omega⟩⟩
theorem V42.appA {H2 h : Heap} {bo w : Nat} {co : List AV} {xa xr : AV} {La Lr : List Int} (v : V42 H2 h bo w co xa xr La Lr) (z : Int) (hn : La.length ≤ 1000000) :
    ∃ q m e h', AEv.appA (h.plus [.cells 1 1 [G z]]) h.size none 1 8 1 [G z] xa = some (.slice q 0 m m, e) ∧ Eff.app e (h.plus [.cells 1 1 [G z]]) = some h' ∧ V42 H2 h' bo w co (.slice q 0 m m) xr (La ++ [z]) Lr := by
  have k1 : Kp (fun _ => False) h (h.plus [.cells 1 1 [G z]]) := Kp.plus _ _
  obtain ⟨x1, e, h2, q1, q2, q3, q4, q5, q6⟩ := app_one (h.plus [.cells 1 1 [G z]]) h.size z (v.a.kp k1 (fun _ _ => id)) hn
  obtain ⟨q, m, rfl⟩ := q3.sl (by simp)
  have hsz : (h.plus [.cells 1 1 [G z]]).size = h.size + 1 := by rw [plus_size]; rfl
  have hqn : q = h.size + 1 ∨ blk xa = some q := by
    rcases q5 with e | ⟨_, e⟩
    · exact .inr e.symm
    · left; cases e; exact hsz
  have hlt : bo < h.size := get_lt v.o (by simp)
  have hs := v.k.size
  refine ⟨q, m, e, h2, q1, q2, (v.k.trans k1).late q4 (fun b hb => (v.da b hb).1), q4.at (plus_keep _ v.o (by simp)) (by simp) (fun e => (v.da bo e).2.1 rfl), q3, (v.r.kp k1 (fun _ _ => id)).kp q4 (fun b hb e => (v.da b e).2.2 hb), v.ob, fun b hb => ?_, v.dr⟩
  cases hb
  rcases hqn with e | e
  · refine ⟨by omega, by omega, fun e' => ?_⟩
    have := v.r.lt e'; omega
  · exact v.da q e
theorem V42.appR {H2 h : Heap} {bo w : Nat} {co : List AV} {xa xr : AV} {La Lr : List Int} (v : V42 H2 h bo w co xa xr La Lr) (z : Int) (hn : Lr.length ≤ 1000000) :
    ∃ q m e h', AEv.appA (h.plus [.cells 1 1 [G z]]) h.size none 1 8 1 [G z] xr = some (.slice q 0 m m, e) ∧ Eff.app e (h.plus [.cells 1 1 [G z]]) = some h' ∧ V42 H2 h' bo w co xa (.slice q 0 m m) La (Lr ++ [z]) := by
  have k1 : Kp (fun _ => False) h (h.plus [.cells 1 1 [G z]]) := Kp.plus _ _
  obtain ⟨x1, e, h2, q1, q2, q3, q4, q5, q6⟩ := app_one (h.plus [.cells 1 1 [G z]]) h.size z (v.r.kp k1 (fun _ _ => id)) hn
  obtain ⟨q, m, rfl⟩ := q3.sl (by simp)
  have hsz : (h.plus [.cells 1 1 [G z]]).size = h.size + 1 := by rw [plus_size]; rfl
  have hqn : q = h.size + 1 ∨ blk xr = some q := by
    rcases q5 with e | ⟨_, e⟩
    · exact .inr e.symm
    · left; cases e; exact hsz
  have hlt : bo < h.size := get_lt v.o (by simp)
  have hs := v.k.size
  refine ⟨q, m, e, h2, q1, q2, (v.k.trans k1).late q4 (fun b hb => (v.dr b hb).1), q4.at (plus_keep _ v.o (by simp)) (by simp) (fun e => (v.dr bo e).2 rfl), (v.a.kp k1 (fun _ _ => id)).kp q4 (fun b hb e => (v.da b hb).2.2 e), q3, v.ob, fun b hb => ?_, fun b hb => ?_⟩
  · refine ⟨(v.da b hb).1, (v.da b hb).2.1, fun e => ?_⟩
    cases e
    rcases hqn with e | e
    · have := v.a.lt hb; omega
    · exact (v.da q hb).2.2 e
  · cases hb
    rcases hqn with e | e
    · exact ⟨by omega, by omega⟩
    · exact v.dr q e

theorem Tr.ex {tbl : Nat → Option CFunc} {I : CallF} {c : CCode} {e : AExit} {Q : SP} {α : Sort _} {P : α → SP} (k : ∀ a, Tr tbl I c (P a) e Q) : Tr tbl I c (fun s h => ∃ a, P a s h) e Q := fun s h ⟨a, hp⟩ => k a s h hp
abbrev yL (lot bad : Int) (A R : Nat → Int) (n : Nat) : List Int := zl (fun i => (yC lot bad A R i : Int)) n
abbrev nL (lot bad : Int) (A R : Nat → Int) (n : Nat) : List Int := zl (fun i => (nC lot bad A R i : Int)) n
abbrev oC (A R : Nat → Int) (j : Nat) : List AV := zs (fun k => (opn A R j k : Int)) (j + 1)
abbrev L42o : List Path := [[], [false], [false, true], [true, false, false], [false, true, false], [true, true, false], [false, false, true]]
def P42 (lot bad : Int) (A R : Nat → Int) (b5 : Nat) (H2 : Heap) (j : Nat) : SP := fun s h => ∃ bo xa xr, ((fun s h => s.get [] = G lot ∧ s.get [false] = G bad ∧ s.get [false, true] = .ptr b5 0 2 ∧ s.get [true, false, false] = .slice bo 0 (j + 1) (j + 1) ∧ s.get [false, true, false] = xa ∧ s.get [true, true, false] = xr ∧ s.get [false, false, true] = G ((j + 1 : Nat) : Int)) : SP) s h ∧ V42 H2 h bo (j + 1) (oC A R j) xa xr (yL lot bad A R j) (nL lot bad A R j)

theorem rc_a (J : CallF) {b5 bA vA n bo : Nat} {xa xr y5 : AV} (H : Heap) (hj : j < n) (hn : n ≤ 36) (m5 : H.get b5 = .cells 0 2 [.slice bA 0 n vA, y5]) :
    Tr tbl J (.trim L42o (.seq c42_o4 (.cond (.s [true, true, true, false]) .skip (.exit 0)))) (fun s h => s.get [] = G lot ∧ s.get [false] = G bad ∧ s.get [false, true] = .ptr b5 0 2 ∧ s.get [true, false, false] = .slice bo 0 (j + 1) (j + 1) ∧ s.get [false, true, false] = xa ∧ s.get [true, true, false] = xr ∧ s.get [false, false, true] = G ((j + 1 : Nat) : Int) ∧ h = H) .normal (fun s h => s.get [] = G lot ∧ s.get [false] = G bad ∧ s.get [false, true] = .ptr b5 0 2 ∧ s.get [true, false, false] = .slice bo 0 (j + 1) (j + 1) ∧ s.get [false, true, false] = xa ∧ s.get [true, true, false] = xr ∧ s.get [false, false, true] = G ((j + 1 : Nat) : Int) ∧ h = H) := by
  have ta : Tr tbl J ((.trim L42o (.seq c42_o4 (.cond (.s [true, true, true, false]) .skip (.exit 0))))) (fun s h => s.get [] = G lot ∧ s.get [false] = G bad ∧ s.get [false, true] = .ptr b5 0 2 ∧ s.get [true, false, false] = .slice bo 0 (j + 1) (j + 1) ∧ s.get [false, true, false] = xa ∧ s.get [true, true, false] = xr ∧ s.get [false, false, true] = G ((j + 1 : Nat) : Int) ∧ h = H) .normal (fun s h => s.get [] = G lot ∧ s.get [false] = G bad ∧ s.get [false, true] = .ptr b5 0 2 ∧ s.get [true, false, false] = .slice bo 0 (j + 1) (j + 1) ∧ s.get [false, true, false] = xa ∧ s.get [true, true, false] = xr ∧ s.get [false, false, true] = G ((j + 1 : Nat) : Int) ∧ h = H) := Tr.region fun s h hp => by
    obtain ⟨g0, g1, g2, g3, g4, g5, g6, rfl⟩ := hp
    simp (disch := first | omega | exact getEq rfl | exact getO0 | exact Nat.le_of_ble_eq_true rfl) [c42_o4, came_some, goI, List.getElem?_cons_zero, List.getElem?_cons_succ, kn, keep, app_growP, app_noneP, plus_N, plus_at0, put_plus0, upd_N, upd_size, putAt, AV.cells, fillA, loadA, takeA, mk, Eff.isAll, Eff.isNone, Eff.commutes, Eff.spares, okPair, apart, eqAgg, fits, LK.fits, allEq, aveq, eqk, mmA, beqT, wrapI, idxI, tdivI, tmodI, decT, decF, ibT, ibF, inT, inF, evScope_c, if_pos, if_neg, g0, g1, g2, g3, g4, g5, g6, m5]
  exact ta
theorem rc_b (J : CallF) {b5 bo : Nat} {xa xr : AV} (H : Heap) (hj : j < 36) :
    Tr tbl J (.seq c42_o5 c42_o6) (fun s h => s.get [] = G lot ∧ s.get [false] = G bad ∧ s.get [false, true] = .ptr b5 0 2 ∧ s.get [true, false, false] = .slice bo 0 (j + 1) (j + 1) ∧ s.get [false, true, false] = xa ∧ s.get [true, true, false] = xr ∧ s.get [false, false, true] = G ((j + 1 : Nat) : Int) ∧ h = H) .normal (fun s h => s.get [] = G lot ∧ s.get [false] = G bad ∧ s.get [false, true] = .ptr b5 0 2 ∧ s.get [true, false, false] = .slice bo 0 (j + 1) (j + 1) ∧ s.get [false, true, false] = xa ∧ s.get [true, true, false] = xr ∧ s.get [false, false, true] = G ((j + 1 : Nat) : Int) ∧ s.get [true, false, true] = .slice H.size 0 (j + 2) (j + 2) ∧ s.get [false, true, true] = G 0 ∧ s.get [true, true, true] = G 0 ∧ h = H.plus [.cells 1 (j + 2) (List.replicate (j + 2) (G 0))]) := by
  have hms := fun h => mkSl_ok h 8 (G 0) (j + 2) ((j : Int) + 1 + 1) (by omega) (by omega)
  generalize List.replicate (j + 2) (G 0) = z at *
  have tb : Tr tbl J (c42_o5) (fun s h => s.get [] = G lot ∧ s.get [false] = G bad ∧ s.get [false, true] = .ptr b5 0 2 ∧ s.get [true, false, false] = .slice bo 0 (j + 1) (j + 1) ∧ s.get [false, true, false] = xa ∧ s.get [true, true, false] = xr ∧ s.get [false, false, true] = G ((j + 1 : Nat) : Int) ∧ h = H) .normal (fun s h => s.get [] = G lot ∧ s.get [false] = G bad ∧ s.get [false, true] = .ptr b5 0 2 ∧ s.get [true, false, false] = .slice bo 0 (j + 1) (j + 1) ∧ s.get [false, true, false] = xa ∧ s.get [true, true, false] = xr ∧ s.get [false, false, true] = G ((j + 1 : Nat) : Int) ∧ s.get [true, false, true] = .slice H.size 0 (j + 2) (j + 2) ∧ h = H.plus [.cells 1 (j + 2) z]) := Tr.region fun s h hp => by
    obtain ⟨g0, g1, g2, g3, g4, g5, g6, rfl⟩ := hp
    simp (disch := first | omega | exact getEq rfl | exact getO0 | exact Nat.le_of_ble_eq_true rfl) [-act, c42_o5, came_some, goI, List.getElem?_cons_zero, List.getElem?_cons_succ, kn, keep, app_growP, app_noneP, plus_N, plus_at0, put_plus0, upd_N, upd_size, putAt, AV.cells, fillA, loadA, takeA, mk, Eff.isAll, Eff.isNone, Eff.commutes, Eff.spares, okPair, apart, eqAgg, fits, LK.fits, allEq, aveq, eqk, mmA, beqT, wrapI, idxI, tdivI, tmodI, decT, decF, ibT, ibF, inT, inF, evScope_c, if_pos, if_neg, g0, g1, g2, g3, g4, g5, g6, act_move, act_bin, act_mkSl, hms]
  have tc : Tr tbl J (c42_o6) (fun s h => s.get [] = G lot ∧ s.get [false] = G bad ∧ s.get [false, true] = .ptr b5 0 2 ∧ s.get [true, false, false] = .slice bo 0 (j + 1) (j + 1) ∧ s.get [false, true, false] = xa ∧ s.get [true, true, false] = xr ∧ s.get [false, false, true] = G ((j + 1 : Nat) : Int) ∧ s.get [true, false, true] = .slice H.size 0 (j + 2) (j + 2) ∧ h = H.plus [.cells 1 (j + 2) z]) .normal (fun s h => s.get [] = G lot ∧ s.get [false] = G bad ∧ s.get [false, true] = .ptr b5 0 2 ∧ s.get [true, false, false] = .slice bo 0 (j + 1) (j + 1) ∧ s.get [false, true, false] = xa ∧ s.get [true, true, false] = xr ∧ s.get [false, false, true] = G ((j + 1 : Nat) : Int) ∧ s.get [true, false, true] = .slice H.size 0 (j + 2) (j + 2) ∧ s.get [false, true, true] = G 0 ∧ s.get [true, true, true] = G 0 ∧ h = H.plus [.cells 1 (j + 2) z]) := Tr.region fun s h hp => by
    obtain ⟨g0, g1, g2, g3, g4, g5, g6, g7, rfl⟩ := hp
    simp (disch := first | omega | exact getEq rfl | exact getO0 | exact Nat.le_of_ble_eq_true rfl) [c42_o6, came_some, goI, List.getElem?_cons_zero, List.getElem?_cons_succ, kn, keep, app_growP, app_noneP, plus_N, plus_at0, put_plus0, upd_N, upd_size, putAt, AV.cells, fillA, loadA, takeA, mk, Eff.isAll, Eff.isNone, Eff.commutes, Eff.spares, okPair, apart, eqAgg, fits, LK.fits, allEq, aveq, eqk, mmA, beqT, wrapI, idxI, tdivI, tmodI, decT, decF, ibT, ibF, inT, inF, evScope_c, if_pos, if_neg, g0, g1, g2, g3, g4, g5, g6, g7]
  exact Tr.seq tb tc
theorem rc_c (J : CallF) {b5 q1 m1 q2 m2 : Nat} {xa xr x12 : AV} {e1 e2 : Eff} {X h1 h2 : Heap} {yc nc : Nat}
    (a1 : AEv.appA (X.plus [.cells 1 1 [G yc]]) X.size none 1 8 1 [G yc] xa = some (.slice q1 0 m1 m1, e1)) (a2 : Eff.app e1 (X.plus [.cells 1 1 [G yc]]) = some h1)
    (b1 : AEv.appA (h1.plus [.cells 1 1 [G nc]]) h1.size none 1 8 1 [G nc] xr = some (.slice q2 0 m2 m2, e2)) (b2 : Eff.app e2 (h1.plus [.cells 1 1 [G nc]]) = some h2) :
    Tr tbl J (.seq c42_o22 (.seq c42_o23 c42_o24)) (fun s h => s.get [] = G lot ∧ s.get [false] = G bad ∧ s.get [false, true] = .ptr b5 0 2 ∧ s.get [false, true, false] = xa ∧ s.get [true, true, false] = xr ∧ s.get [false, false, true] = G ((j + 1 : Nat) : Int) ∧ s.get [true, false, true] = x12 ∧ s.get [false, true, true] = G yc ∧ s.get [true, true, true] = G nc ∧ h = X) .normal (fun s h => s.get [] = G lot ∧ s.get [false] = G bad ∧ s.get [false, true] = .ptr b5 0 2 ∧ s.get [true, false, false] = x12 ∧ s.get [false, true, false] = .slice q1 0 m1 m1 ∧ s.get [true, true, false] = .slice q2 0 m2 m2 ∧ s.get [false, false, true] = G ((j + 1 : Nat) : Int) ∧ h = h2) := by
  have tc : Tr tbl J (c42_o22) (fun s h => s.get [] = G lot ∧ s.get [false] = G bad ∧ s.get [false, true] = .ptr b5 0 2 ∧ s.get [false, true, false] = xa ∧ s.get [true, true, false] = xr ∧ s.get [false, false, true] = G ((j + 1 : Nat) : Int) ∧ s.get [true, false, true] = x12 ∧ s.get [false, true, true] = G yc ∧ s.get [true, true, true] = G nc ∧ h = X) .normal (fun s h => s.get [] = G lot ∧ s.get [false] = G bad ∧ s.get [false, true] = .ptr b5 0 2 ∧ s.get [false, true, false] = .slice q1 0 m1 m1 ∧ s.get [true, true, false] = xr ∧ s.get [false, false, true] = G ((j + 1 : Nat) : Int) ∧ s.get [true, false, true] = x12 ∧ s.get [true, true, true] = G nc ∧ h = h1) := Tr.region fun s h hp => by
    obtain ⟨g0, g1, g2, g3, g4, g5, g6, g7, g8, rfl⟩ := hp
    simp (disch := first | omega | exact getEq rfl | exact getO0 | exact Nat.le_of_ble_eq_true rfl) [c42_o22, came_some, goI, List.getElem?_cons_zero, List.getElem?_cons_succ, kn, keep, app_growP, app_noneP, plus_N, plus_at0, put_plus0, upd_N, upd_size, putAt, AV.cells, fillA, loadA, takeA, mk, Eff.isAll, Eff.isNone, Eff.commutes, Eff.spares, okPair, apart, eqAgg, fits, LK.fits, allEq, aveq, eqk, mmA, beqT, wrapI, idxI, tdivI, tmodI, decT, decF, ibT, ibF, inT, inF, evScope_c, if_pos, if_neg, g0, g1, g2, g3, g4, g5, g6, g7, g8, elems, rdOf, a1, a2]
  have td : Tr tbl J ((.seq c42_o23 c42_o24)) (fun s h => s.get [] = G lot ∧ s.get [false] = G bad ∧ s.get [false, true] = .ptr b5 0 2 ∧ s.get [false, true, false] = .slice q1 0 m1 m1 ∧ s.get [true, true, false] = xr ∧ s.get [false, false, true] = G ((j + 1 : Nat) : Int) ∧ s.get [true, false, true] = x12 ∧ s.get [true, true, true] = G nc ∧ h = h1) .normal (fun s h => s.get [] = G lot ∧ s.get [false] = G bad ∧ s.get [false, true] = .ptr b5 0 2 ∧ s.get [true, false, false] = x12 ∧ s.get [false, true, false] = .slice q1 0 m1 m1 ∧ s.get [true, true, false] = .slice q2 0 m2 m2 ∧ s.get [false, false, true] = G ((j + 1 : Nat) : Int) ∧ h = h2) := Tr.region fun s h hp => by
    obtain ⟨g0, g1, g2, g3, g4, g5, g6, g7, rfl⟩ := hp
    simp (disch := first | omega | exact getEq rfl | exact getO0 | exact Nat.le_of_ble_eq_true rfl) [c42_o23, c42_o24, came_some, goI, List.getElem?_cons_zero, List.getElem?_cons_succ, kn, keep, app_growP, app_noneP, plus_N, plus_at0, put_plus0, upd_N, upd_size, putAt, AV.cells, fillA, loadA, takeA, mk, Eff.isAll, Eff.isNone, Eff.commutes, Eff.spares, okPair, apart, eqAgg, fits, LK.fits, allEq, aveq, eqk, mmA, beqT, wrapI, idxI, tdivI, tmodI, decT, decF, ibT, ibF, inT, inF, evScope_c, if_pos, if_neg, g0, g1, g2, g3, g4, g5, g6, g7, elems, rdOf, b1, b2]
  exact Tr.seq tc td
theorem rc_e (J : CallF) {b5 : Nat} {x8 xa xr : AV} (H : Heap) (hj : j < 36) :
    Tr tbl J c42_o25 (fun s h => s.get [] = G lot ∧ s.get [false] = G bad ∧ s.get [false, true] = .ptr b5 0 2 ∧ s.get [true, false, false] = x8 ∧ s.get [false, true, false] = xa ∧ s.get [true, true, false] = xr ∧ s.get [false, false, true] = G ((j + 1 : Nat) : Int) ∧ h = H) .normal (fun s h => s.get [] = G lot ∧ s.get [false] = G bad ∧ s.get [false, true] = .ptr b5 0 2 ∧ s.get [true, false, false] = x8 ∧ s.get [false, true, false] = xa ∧ s.get [true, true, false] = xr ∧ s.get [false, false, true] = G ((j + 1 + 1 : Nat) : Int) ∧ h = H) := by
  have te : Tr tbl J (c42_o25) (fun s h => s.get [] = G lot ∧ s.get [false] = G bad ∧ s.get [false, true] = .ptr b5 0 2 ∧ s.get [true, false, false] = x8 ∧ s.get [false, true, false] = xa ∧ s.get [true, true, false] = xr ∧ s.get [false, false, true] = G ((j + 1 : Nat) : Int) ∧ h = H) .normal (fun s h => s.get [] = G lot ∧ s.get [false] = G bad ∧ s.get [false, true] = .ptr b5 0 2 ∧ s.get [true, false, false] = x8 ∧ s.get [false, true, false] = xa ∧ s.get [true, true, false] = xr ∧ s.get [false, false, true] = G ((j + 1 + 1 : Nat) : Int) ∧ h = H) := Tr.region fun s h hp => by
    obtain ⟨g0, g1, g2, g3, g4, g5, g6, rfl⟩ := hp
    simp (disch := first | omega | exact getEq rfl | exact getO0 | exact Nat.le_of_ble_eq_true rfl) [c42_o25, came_some, goI, List.getElem?_cons_zero, List.getElem?_cons_succ, kn, keep, app_growP, app_noneP, plus_N, plus_at0, put_plus0, upd_N, upd_size, putAt, AV.cells, fillA, loadA, takeA, mk, Eff.isAll, Eff.isNone, Eff.commutes, Eff.spares, okPair, apart, eqAgg, fits, LK.fits, allEq, aveq, eqk, mmA, beqT, wrapI, idxI, tdivI, tmodI, decT, decF, ibT, ibF, inT, inF, evScope_c, if_pos, if_neg, g0, g1, g2, g3, g4, g5, g6]
  exact te

theorem rc_step (J : CallF) (K : Kn J) (k65 : K65' J) {b5 bA vA bR vR n : Nat} {H2 : Heap} (hj : j < n) (hn : n ≤ 36) (hl : lot ≤ 36) (hjl : (j : Int) + 1 ≤ lot) (hb0 : 0 ≤ bad ∧ bad ≤ lot) {ca cr : List AV} (f5 : H2.get b5 = .cells 0 2 [.slice bA 0 n vA, .slice bR 0 n vR]) (fA : H2.get bA = .cells 1 vA ca) (fR : H2.get bR = .cells 1 vR cr) (eA : ca[j]? = some (G (A j))) (eR : cr[j]? = some (G (R j))) :
    Tr tbl J (.trim L42o c42_b1) (P42 lot bad A R b5 H2 j) .normal (P42 lot bad A R b5 H2 (j + 1)) := by
  refine Tr.ex fun bo => Tr.ex fun xa => Tr.ex fun xr => ?_
  refine Tr.fix (F := fun h => V42 H2 h bo (j + 1) (oC A R j) xa xr (yL lot bad A R j) (nL lot bad A R j)) (P' := fun H => (fun s h => s.get [] = G lot ∧ s.get [false] = G bad ∧ s.get [false, true] = .ptr b5 0 2 ∧ s.get [true, false, false] = .slice bo 0 (j + 1) (j + 1) ∧ s.get [false, true, false] = xa ∧ s.get [true, true, false] = xr ∧ s.get [false, false, true] = G ((j + 1 : Nat) : Int) ∧ h = H)) (fun H V => ?_) (fun s h hp => ⟨hp.2, hp.1.1, hp.1.2.1, hp.1.2.2.1, hp.1.2.2.2.1, hp.1.2.2.2.2.1, hp.1.2.2.2.2.2.1, hp.1.2.2.2.2.2.2, rfl⟩)
  have m5 := V.k.at f5 (by simp) id
  have mA := V.k.at fA (by simp) id
  have mR := V.k.at fR (by simp) id
  have r0 := nxC_0 (A := A) (R := R) (j := j)
  have rin := rc_in (xa := xa) (xr := xr) J K k65 H hj hn hl hjl hb0 m5 mA mR eA eR V.o
  rw [nxC_end] at rin
  rw [r0] at rin
  have V1 := V.open (j + 2) (oC A R (j + 1))
  have ey : yL lot bad A R (j + 1) = yL lot bad A R j ++ [(yC lot bad A R j : Int)] := rfl
  have en : nL lot bad A R (j + 1) = nL lot bad A R j ++ [(nC lot bad A R j : Int)] := rfl
  have eo : zs (fun k => (opn A R (j + 1) k : Int)) (j + 2) = oC A R (j + 1) := rfl
  rw [eo] at rin
  unfold P42
  rw [ey, en]
  have ly : (yL lot bad A R j).length = j := zl_len _ _
  have ln : (nL lot bad A R j).length = j := zl_len _ _
  generalize yL lot bad A R j = La at *
  generalize nL lot bad A R j = Lr at *
  generalize yC lot bad A R j = yc at *
  generalize nC lot bad A R j = nc at *
  generalize oC A R (j + 1) = co1 at *
  clear r0 eo ey en
  obtain ⟨q1, m1, e1, h1, a1, a2, V2⟩ := V1.appA yc (by omega)
  obtain ⟨q2, m2, e2, h2, b1, b2, V3⟩ := V2.appR nc (by omega)
  refine Tr.post (fun s h q => ?_) (Tr.trim_seq (rc_a J H hj hn m5) (Tr.seq (Tr.block_out (Tr.app2 (rc_b J H (by omega)) (Tr.seq rin (rc_c J a1 a2 b1 b2))) (by simp)) (rc_e J h2 (by omega))))
  obtain ⟨z0, z1, z2, z3, z4, z5, z6, rfl⟩ := q
  exact ⟨_, _, _, ⟨z0, z1, z2, z3, z4, z5, z6⟩, V3⟩
end

def Got42 (h : Heap) (v : AV) (own : List AObj) (lot bad : Int) (A R : List Int) : Prop := ∃ xa xr, v = .tup [xa, xr] ∧ listOf (h.plus own) xa = some (yL lot bad (A.getD · 0) (R.getD · 0) A.length) ∧ listOf (h.plus own) xr = some (nL lot bad (A.getD · 0) (R.getD · 0) A.length) ∧ own ≠ []
theorem c42_ok (J : CallF) (K : Kn J) (k65 : K65' J) (hJ : ∀ a h, J 42 a h = none) (h : Heap) {lot bad : Int} {x y : AV} {A R : List Int} (hx : listOf h x = some A) (hy : listOf h y = some R) (hl : lotOk lot bad) (hc : crsOk lot A R) :
    ∃ v own, CallsTo tbl J 42 [G lot, G bad, .agg [x, y]] h (v, own, false) ∧ Got42 h v own lot bad A R := by
  have hc1 := hc.1
  have hc2 := hc.2.1
  unfold lotOk at hl
  rcases listOf_some hx with ⟨rfl, rfl⟩ | ⟨bA, vA, rfl, gA⟩
  · simp at hc1
  rcases listOf_some hy with ⟨rfl, rfl⟩ | ⟨bR, vR, rfl, gR⟩
  · simp at hc2; omega
  rw [hc2]
  unfold Got42
  obtain ⟨n, hn⟩ : ∃ n, A.length = n := ⟨_, rfl⟩
  rw [hn] at hc1 hc2 ⊢
  have eA : ∀ i, i < n → (A.map fun n => AV.int .i64 n)[i]? = some (G (A.getD i 0)) := fun i hi => by
    rw [List.getElem?_map, List.getElem?_eq_getElem (by omega), List.getD_eq_getElem?_getD, List.getElem?_eq_getElem (by omega)]; rfl
  have eR : ∀ i, i < n → (R.map fun n => AV.int .i64 n)[i]? = some (G (R.getD i 0)) := fun i hi => by
    rw [List.getElem?_map, List.getElem?_eq_getElem (by omega), List.getD_eq_getElem?_getD, List.getElem?_eq_getElem (by omega)]; rfl
  generalize (A.map fun n => AV.int .i64 n) = ca at *
  generalize (R.map fun n => AV.int .i64 n) = cr at *
  refine Tr.fnx (cf := c42) (e := .ret) (s := T.set (T.set (T.set .leaf [] (G lot)) [false] (G bad)) [true] (.agg [.slice bA 0 n vA, .slice bR 0 n vR])) (by decide) rfl (hJ _ _) rfl rfl (by simp) ?_
  obtain ⟨H2, s2⟩ : ∃ H, (⟨h.get, h.size, [.cells 0 2 [.slice bA 0 n vA, .slice bR 0 n vR]]⟩ : Heap) = H := ⟨_, rfl⟩
  have kf : Kp (fun _ => False) (frameOf h) H2 := by rw [← s2]; exact Kp.plus (frameOf h) [.cells 0 2 [.slice bA 0 n vA, .slice bR 0 n vR]]
  have f5 : H2.get h.size = .cells 0 2 [.slice bA 0 n vA, .slice bR 0 n vR] := by rw [← s2, get_mk_ge _ _ _ _ (by omega), Nat.sub_self]; rfl
  have fA : H2.get bA = .cells 1 vA ca := by rw [← s2, get_mk_lt _ _ _ _ (get_lt gA (by simp))]; exact gA
  have fR : H2.get bR = .cells 1 vR cr := by rw [← s2, get_mk_lt _ _ _ _ (get_lt gR (by simp))]; exact gR
  have t0 : Tr tbl J (c42_o0) (fun s h' => s = T.set (T.set (T.set .leaf [] (G lot)) [false] (G bad)) [true] (.agg [.slice bA 0 n vA, .slice bR 0 n vR]) ∧ h' = frameOf h) .normal (fun s h' => s.get [] = G lot ∧ s.get [false] = G bad ∧ s.get [false, true] = .ptr h.size 0 2 ∧ h' = ⟨h.get, h.size, [.cells 0 2 [.slice bA 0 n vA, .slice bR 0 n vR]]⟩) := Tr.region fun s h hp => by
    obtain ⟨rfl, rfl⟩ := hp
    simp (disch := first | omega | exact getEq rfl | exact getO0 | exact Nat.le_of_ble_eq_true rfl) [c42_o0, frameOf, came_some, goI, List.getElem?_cons_zero, List.getElem?_cons_succ, kn, keep, frameOf, size_mk, get_mk_lt, get_mk_ge, Eff.app, Heap.setOwn, putAt, AV.cells, fillA, loadA, takeA, mk, Eff.isAll, Eff.isNone, Eff.commutes, Eff.spares, okPair, apart, eqAgg, fits, LK.fits, allEq, aveq, eqk, mmA, beqT, wrapI, idxI, tdivI, tmodI, decT, decF, ibT, ibF, inT, inF, evScope_c, if_pos, if_neg]
  rw [s2] at t0
  have t1 : Tr tbl J ((.seq c42_o1 c42_o2)) (fun s h' => s.get [] = G lot ∧ s.get [false] = G bad ∧ s.get [false, true] = .ptr h.size 0 2 ∧ h' = H2) .normal (fun s h' => s.get [] = G lot ∧ s.get [false] = G bad ∧ s.get [false, true] = .ptr h.size 0 2 ∧ s.get [true, false, false] = .slice H2.size 0 1 1 ∧ s.get [false, true, false] = .nils ∧ s.get [true, true, false] = .nils ∧ h' = H2.plus [.cells 1 1 [G 1]]) := Tr.region fun s h hp => by
    obtain ⟨g0, g1, g2, rfl⟩ := hp
    simp (disch := first | omega | exact getEq rfl | exact getO0 | exact Nat.le_of_ble_eq_true rfl) [c42_o1, c42_o2, came_some, goI, List.getElem?_cons_zero, List.getElem?_cons_succ, kn, keep, app_growP, app_noneP, plus_N, plus_at0, put_plus0, upd_N, upd_size, putAt, AV.cells, fillA, loadA, takeA, mk, Eff.isAll, Eff.isNone, Eff.commutes, Eff.spares, okPair, apart, eqAgg, fits, LK.fits, allEq, aveq, eqk, mmA, beqT, wrapI, idxI, tdivI, tmodI, decT, decF, ibT, ibF, inT, inF, evScope_c, if_pos, if_neg, g0, g1, g2]
  obtain ⟨X, hX⟩ : ∃ X, H2.plus [.cells 1 1 [G 1]] = X := ⟨_, rfl⟩
  rw [hX] at t1
  have t3 : Tr tbl J (c42_o3) (fun s h' => s.get [] = G lot ∧ s.get [false] = G bad ∧ s.get [false, true] = .ptr h.size 0 2 ∧ s.get [true, false, false] = .slice H2.size 0 1 1 ∧ s.get [false, true, false] = .nils ∧ s.get [true, true, false] = .nils ∧ h' = X) .normal (fun s h' => s.get [] = G lot ∧ s.get [false] = G bad ∧ s.get [false, true] = .ptr h.size 0 2 ∧ s.get [true, false, false] = .slice H2.size 0 1 1 ∧ s.get [false, true, false] = .nils ∧ s.get [true, true, false] = .nils ∧ s.get [false, false, true] = G ((0 + 1 : Nat) : Int) ∧ h' = X) := Tr.region fun s h hp => by
    obtain ⟨g0, g1, g2, g3, g4, g5, rfl⟩ := hp
    simp (disch := first | omega | exact getEq rfl | exact getO0 | exact Nat.le_of_ble_eq_true rfl) [c42_o3, came_some, goI, List.getElem?_cons_zero, List.getElem?_cons_succ, kn, keep, app_growP, app_noneP, plus_N, plus_at0, put_plus0, upd_N, upd_size, putAt, AV.cells, fillA, loadA, takeA, mk, Eff.isAll, Eff.isNone, Eff.commutes, Eff.spares, okPair, apart, eqAgg, fits, LK.fits, allEq, aveq, eqk, mmA, beqT, wrapI, idxI, tdivI, tmodI, decT, decF, ibT, ibF, inT, inF, evScope_c, if_pos, if_neg, g0, g1, g2, g3, g4, g5]
  have t3' := Tr.post (Q' := P42 lot bad (A.getD · 0) (R.getD · 0) h.size H2 0) (fun s h' q => by
    obtain ⟨q0, q1, q2, q3, q4, q5, q6, rfl⟩ := q
    refine ⟨H2.size, .nils, .nils, ⟨q0, q1, q2, q3, q4, q5, q6⟩, ?_⟩
    rw [← hX]
    exact ⟨Kp.plus _ _, plus_at0 _ _ _ _ rfl, LS.nil _, LS.nil _, Nat.le_refl _, (fun q hq => nomatch hq), (fun q hq => nomatch hq)⟩) t3
  have tend : Tr tbl J (.trim L42o c42_b1) (P42 lot bad (A.getD · 0) (R.getD · 0) h.size H2 n) (.exit 0) (fun s h' => ∃ xa xr, (s.get [false, true, false] = xa ∧ s.get [true, true, false] = xr) ∧ ∃ bo co, V42 H2 h' bo (n + 1) co xa xr (yL lot bad (A.getD · 0) (R.getD · 0) n) (nL lot bad (A.getD · 0) (R.getD · 0) n)) := by
    refine Tr.ex fun bo => Tr.ex fun xa => Tr.ex fun xr => ?_
    generalize yL lot bad (A.getD · 0) (R.getD · 0) n = La at *
    generalize nL lot bad (A.getD · 0) (R.getD · 0) n = Lr at *
    generalize oC (A.getD · 0) (R.getD · 0) n = co at *
    have t : Tr tbl J (.trim L42o c42_b1) (fun s h' => s.get [] = G lot ∧ s.get [false] = G bad ∧ s.get [false, true] = .ptr h.size 0 2 ∧ s.get [true, false, false] = .slice bo 0 (n + 1) (n + 1) ∧ s.get [false, true, false] = xa ∧ s.get [true, true, false] = xr ∧ s.get [false, false, true] = G ((n + 1 : Nat) : Int) ∧ V42 H2 h' bo (n + 1) co xa xr La Lr) (.exit 0) (fun s h' => s.get [false, true, false] = xa ∧ s.get [true, true, false] = xr ∧ V42 H2 h' bo (n + 1) co xa xr La Lr) := by
      have t : Tr tbl J ((.trim L42o c42_b1)) (fun s h' => s.get [] = G lot ∧ s.get [false] = G bad ∧ s.get [false, true] = .ptr h.size 0 2 ∧ s.get [true, false, false] = .slice bo 0 (n + 1) (n + 1) ∧ s.get [false, true, false] = xa ∧ s.get [true, true, false] = xr ∧ s.get [false, false, true] = G ((n + 1 : Nat) : Int) ∧ V42 H2 h' bo (n + 1) co xa xr La Lr) (.exit 0) (fun s h' => s.get [false, true, false] = xa ∧ s.get [true, true, false] = xr ∧ V42 H2 h' bo (n + 1) co xa xr La Lr) := Tr.region fun s h hp => by
        obtain ⟨g0, g1, g2, g3, g4, g5, g6, hV⟩ := hp
        have f5' := hV.k.at f5 (by simp) id
        simp (disch := first | omega | exact getEq rfl | exact getO0 | exact Nat.le_of_ble_eq_true rfl) [c42_b1, c42_o4, came_some, goI, List.getElem?_cons_zero, List.getElem?_cons_succ, kn, keep, app_growP, app_noneP, plus_N, plus_at0, put_plus0, upd_N, upd_size, putAt, AV.cells, fillA, loadA, takeA, mk, Eff.isAll, Eff.isNone, Eff.commutes, Eff.spares, okPair, apart, eqAgg, fits, LK.fits, allEq, aveq, eqk, mmA, beqT, wrapI, idxI, tdivI, tmodI, decT, decF, ibT, ibF, inT, inF, evScope_c, if_pos, if_neg, g0, g1, g2, g3, g4, g5, g6, hV, f5']
      exact t
    exact Tr.post (fun s h' q => ⟨xa, xr, ⟨q.1, q.2.1⟩, bo, co, q.2.2⟩) (Tr.pre (fun s h' q => by
      obtain ⟨⟨q0, q1, q2, q3, q4, q5, q6⟩, q7⟩ := q
      exact ⟨q0, q1, q2, q3, q4, q5, q6, q7⟩) t)
  have tl := Tr.rounds (P := fun j => P42 lot bad (A.getD · 0) (R.getD · 0) h.size H2 j) (M := n) (fun j hj => rc_step J K k65 (by omega) (by omega) (by omega) (by omega) (by omega) f5 fA fR (eA j hj) (eR j hj)) tend (by simp) 0 (by omega)
  refine Tr.seq t0 (Tr.app2 t1 (Tr.seq (Tr.seq t3' (Tr.block tl)) ?_))
  refine Tr.ex fun xa => Tr.ex fun xr => ?_
  have t26 : Tr tbl J (.seq c42_o26 .ret) (fun s h' => (s.get [false, true, false] = xa ∧ s.get [true, true, false] = xr) ∧ ∃ bo co, V42 H2 h' bo (n + 1) co xa xr (yL lot bad (A.getD · 0) (R.getD · 0) n) (nL lot bad (A.getD · 0) (R.getD · 0) n)) .ret (fun s h' => s.get [true, true] = xa ∧ s.get [false, false, false] = xr ∧ ∃ bo co, V42 H2 h' bo (n + 1) co xa xr (yL lot bad (A.getD · 0) (R.getD · 0) n) (nL lot bad (A.getD · 0) (R.getD · 0) n)) := by
    generalize yL lot bad (A.getD · 0) (R.getD · 0) n = La at *
    generalize nL lot bad (A.getD · 0) (R.getD · 0) n = Lr at *
    have t : Tr tbl J ((.seq c42_o26 .ret)) (fun s h' => (s.get [false, true, false] = xa ∧ s.get [true, true, false] = xr) ∧ ∃ bo co, V42 H2 h' bo (n + 1) co xa xr La Lr) .ret (fun s h' => s.get [true, true] = xa ∧ s.get [false, false, false] = xr ∧ ∃ bo co, V42 H2 h' bo (n + 1) co xa xr La Lr) := Tr.region fun s h hp => by
      obtain ⟨⟨g0, g1⟩, hV⟩ := hp
      simp (disch := first | omega | exact getEq rfl | exact getO0 | exact Nat.le_of_ble_eq_true rfl) [c42_o26, came_some, goI, List.getElem?_cons_zero, List.getElem?_cons_succ, kn, keep, app_growP, app_noneP, plus_N, plus_at0, put_plus0, upd_N, upd_size, putAt, AV.cells, fillA, loadA, takeA, mk, Eff.isAll, Eff.isNone, Eff.commutes, Eff.spares, okPair, apart, eqAgg, fits, LK.fits, allEq, aveq, eqk, mmA, beqT, wrapI, idxI, tdivI, tmodI, decT, decF, ibT, ibF, inT, inF, evScope_c, if_pos, if_neg, g0, g1, hV]
    exact t
  refine Tr.post (fun s h' q => ?_) t26
  obtain ⟨q6, q7, bo, co, V⟩ := q
  have ho := (kf.trans V.k).own
  have hne : yL lot bad (A.getD · 0) (R.getD · 0) n ≠ [] := fun e => by have := congrArg List.length e; rw [zl_len] at this; simp at this; omega
  obtain ⟨q0, m0, rfl⟩ := V.a.sl hne
  refine ⟨[.slice q0 0 m0 m0, xr], by simp [c42, evRess, evRes, q6, q7], rfl, .slice q0 0 m0 m0, xr, rfl, ?_, ?_, fun e => ?_⟩
  · refine listOf_fr ?_
    rw [← ho]; exact V.a.list
  · refine listOf_fr ?_
    rw [← ho]; exact V.r.list
  · have h1 := get_lt V.o (by simp)
    have h2 := V.ob
    have h3 := get_lt f5 (by simp)
    rw [ho, e] at h1
    have : Heap.size ⟨h.get, h.size, []⟩ = h.size := rfl
    omega

end Go.Proofs.Ytlkgpcfhpeilhaa.Ev
