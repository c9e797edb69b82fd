/-
  RollerPowers answers true at any matrix and int, as the evaluator runs it. No condition.
-/
import Derived.Test.YtjeemgaoonapgaaRTabs
import Derived.Test.YtjeemgaoonapgaaRWalks
set_option linter.unusedVariables false
set_option linter.unusedSimpArgs false
namespace Go.Proofs.Ytjeemgaoonapgaa.Ev
open Go Go.AEv

attribute [local simp] evFunc initS evOps_c evTrim_c evSkip_c evExit_c evRet_c evSeq_c evCond_c evBlock_c evDraw_c runOps_n runOps_c exec_n exec_g pure1_c act AOpd.ev T.get T.set T.put evBin evUn forceT_eq forceV_eq forceL_eq evRess evRes one keep runFP_n runFP_c app_none AV.flats AV.flat came_some List.getElem?_cons_zero List.getElem?_cons_succ beqT wrapI idxI tdivI tmodI decT decF ibT ibF inT inF evScope_c if_pos if_neg Cm_some thenW_n thenW_e thenW_r blkW_n blkW_e blkW_r goI kn putAt AV.cells fillA loadA takeA mk Eff.isAll Eff.isNone Eff.commutes Eff.spares okPair apart eqAgg fits LK.fits allEq aveq eqk mmA

structure KnP (J : CallF) : Prop where
  k17 : K17 J
  k21 : K21 J
  k23 : ∀ h, J 23 [] h = some (.bool true, [], false)
  k24 : K24 J
  k33 : K33 J
  k34 : K34 J
  k43 : K43 J
  k44 : K44 J
  k45 : K45 J
  k46 : K46 J
  k47 : K47 J
theorem knP : KnP T20 where
  k17 := fun h y M hy => by
    simp (disch := decide) only [T20, T19, T18, T17, T16, T15, T14, T13, T12, T11, T10, T9, T8, T7, T6, T5, T4, T3, T2, T1, addI_ne, addX_ne, addV_ne, addK_ne]
    exact k17_r h y M hy
  k21 := fun h y M hy hb => by
    simp (disch := decide) only [T20, T19, T18, T17, T16, T15, T14, T13, T12, T11, T10, T9, T8, T7, T6, T5, T4, T3, T2, T1, addI_ne, addX_ne, addV_ne, addK_ne]
    exact k21_r h y M hy hb
  k23 := fun h => by
    simp (disch := decide) only [T20, T19, T18, T17, T16, T15, T14, T13, T12, T11, T10, T9, T8, T7, T6, T5, T4, T3, T2, T1, addI_ne, addX_ne, addV_ne, addK_ne]
    exact k23_r h
  k24 := fun h x y a b hx hy hn => by
    simp (disch := decide) only [T20, T19, T18, T17, T16, T15, T14, T13, T12, T11, T10, T9, T8, T7, T6, T5, T4, T3, T2, T1, addI_ne, addX_ne, addV_ne, addK_ne]
    exact k24_r h x y a b hx hy hn
  k33 := fun h a ha => by
    simp (disch := decide) only [T20, T19, addK_ne]
    exact k33 h a ha
  k34 := fun h a ha => by
    simp (disch := decide) only [T20, T19, T18, T17, T16, T15, T14, T13, T12, T11, addK_ne]
    exact k34 h a ha
  k43 := fun h a ha => by
    simp (disch := decide) only [T20, T19, T18, T17, addK_ne]
    exact k43 h a ha
  k44 := fun h a ha hm => by
    simp (disch := decide) only [T20, T19, T18, T17, T16, T15, T14, T13, T12, addK_ne]
    exact k44 h a ha hm
  k45 := fun h a ha hm => by
    simp (disch := decide) only [T20, addK_ne]
    exact k45 h a ha hm
  k46 := fun h a ha => by
    simp (disch := decide) only [T20, T19, T18, addK_ne]
    exact k46 h a ha
  k47 := k47

theorem powers_law (J : CallF) (K : KnP J) (hJ : ∀ a h, J 10 a h = none) (h : Heap) (c : Int) {m : AV} {M : List (List Int)} (hm : MR h m M) : CallsTo tbl J 10 [m, G c] h (.bool true, [], false) := by
  refine Tr.fnv (cf := c10) (e := .ret) (s := T.set (T.set .leaf [] m) [false] (G c)) (by decide) rfl (hJ _ _) rfl rfl rfl (by simp) ?_
  refine Tr.w fun s1 H1 hp R kR => ?_
  obtain ⟨rfl, rfl⟩ := hp
  have q : True := trivial
  have fin : ∀ s h', s.get [true, false] = .bool true → R .ret s h' := fun s h' a => kR _ _ ⟨[.bool true], by simp [c10, evRess, evRes, a], rfl⟩
  clear kR
  have hm0 : MR (frameOf h) m M := hm.lo []
  obtain ⟨x, own, k17, tg⟩ := K.k17 _ m M hm0
  have hx := tg.mr
  have hlN := cutM_len M
  have k23 := K.k23
  generalize cutM M = N at *
  clear tg hm0
  generalize hH1 : (frameOf h).plus own = H1 at *
  obtain ⟨v43, own43, k43, p1, p2, p3⟩ := K.k43 H1 ⟨N, x, c⟩ hx
  have kp2 : Kp (fun _ => False) H1 (H1.plus own43) := Kp.plus _ _
  simp only at k43 p1 p2 p3
  cases w1 : isMat N
  · obtain ⟨rfl, rfl⟩ := p1 (fun q => by rw [show isMat N = true from q.1] at w1; cases w1)
    have e0 : H1.plus [] = H1 := by simp [Heap.plus]
    have k34 := K.k34 H1 ⟨N, x⟩ hx
    obtain ⟨v33, own33, k33, r1, _⟩ := K.k33 H1 ⟨N, x⟩ hx
    obtain ⟨rfl, rfl⟩ := r1 w1
    simp only [w1, Bool.false_eq_true, if_false] at k34 k33
    have k21 := K.k21 H1 x N hx (by omega)
    rw [w1] at k21
    refine W.seq (W.chunk ?_)
    simp (disch := first | omega | exact getEq rfl | exact getO0 | exact Nat.le_of_ble_eq_true rfl) [c10_o0, app_growP, app_noneP, plus_N, plus_at0, put_plus0, put_plus1, upd_N, upd_size, q]
    refine W.seq (W.chunk ?_)
    simp (disch := first | omega | exact getEq rfl | exact getO0 | exact Nat.le_of_ble_eq_true rfl) [c10_o1, app_growP, app_noneP, plus_N, plus_at0, put_plus0, put_plus1, upd_N, upd_size, q, k17, app_if, app_if', hH1]
    refine W.seq (W.chunk ?_)
    simp (disch := first | omega | exact getEq rfl | exact getO0 | exact Nat.le_of_ble_eq_true rfl) [c10_o2, app_growP, app_noneP, plus_N, plus_at0, put_plus0, put_plus1, upd_N, upd_size, q, k43]
    refine W.seq (W.chunk ?_)
    simp (disch := first | omega | exact getEq rfl | exact getO0 | exact Nat.le_of_ble_eq_true rfl) [c10_o3, app_growP, app_noneP, plus_N, plus_at0, put_plus0, put_plus1, upd_N, upd_size, q, k34]
    refine W.seq (W.chunk ?_)
    simp (disch := first | omega | exact getEq rfl | exact getO0 | exact Nat.le_of_ble_eq_true rfl) [c10_o4, app_growP, app_noneP, plus_N, plus_at0, put_plus0, put_plus1, upd_N, upd_size, q, k33]
    refine W.assoc ?_
    refine W.seq (W.chunk ?_)
    simp (disch := first | omega | exact getEq rfl | exact getO0 | exact Nat.le_of_ble_eq_true rfl) [c10_o5, app_growP, app_noneP, plus_N, plus_at0, put_plus0, put_plus1, upd_N, upd_size, q, k21]
    refine W.seq (W.chunk ?_)
    simp (disch := first | omega | exact getEq rfl | exact getO0 | exact Nat.le_of_ble_eq_true rfl) [c10_o6, app_growP, app_noneP, plus_N, plus_at0, put_plus0, put_plus1, upd_N, upd_size, q, k23]
    exact fin _ _ (by simp [T.get])
  · have h8 := isMat_n w1
    have hx2 := hx.kp kp2
    generalize hH2 : H1.plus own43 = H2 at *
    have k34 := K.k34 H2 ⟨N, x⟩ hx2
    obtain ⟨v33, own33, k33, _, r2⟩ := K.k33 H2 ⟨N, x⟩ hx2
    obtain ⟨w33, rfl, ng33⟩ := r2 w1
    simp only [w1, if_true] at k34 k33
    have kp3 : Kp (fun _ => False) H2 (H2.plus own33) := Kp.plus _ _
    have hx3 := hx2.kp kp3
    generalize hH3 : H2.plus own33 = H3 at *
    have k21 := K.k21 H3 x N hx3 (by omega)
    rw [w1] at k21
    have k44 := K.k44 H3 ⟨N, x⟩ hx3 w1
    obtain ⟨w45, own45, k45, ng45⟩ := K.k45 H3 ⟨N, x⟩ hx3 w1
    simp only at k44 k45 ng45
    have kp4 : Kp (fun _ => False) H3 (H3.plus own45) := Kp.plus _ _
    have hx4 := hx3.kp kp4
    generalize hH4 : H3.plus own45 = H4 at *
    have k24 := K.k24 H4 w33 w45 _ _ (ng33.kp kp4).list ng45.list (by unfold pyL; rw [lf_len]; simp only; omega)
    rw [decide_eq_true rfl] at k24
    have kx : ∃ a b : Int, ∃ f : Bool, J 34 [x] H2 = some (.tup [G a, G b], [], false) ∧ J 44 [x] H3 = some (.tup [G a, .bool f], [], false) ∧ ((f = true ∧ b = 0) ∨ (f = false ∧ a = 0 ∧ b = 6)) := by
      by_cases e : exB N = true
      · exact ⟨exN N, 0, true, by rw [k34, if_pos e], by rw [k44, if_pos e], .inl ⟨rfl, rfl⟩⟩
      · exact ⟨0, 6, false, by rw [k34, if_neg e], by rw [k44, if_neg e], .inr ⟨rfl, rfl, rfl⟩⟩
    obtain ⟨ea, eb, ef, k34', k44', hef⟩ := kx
    clear k34 k44 ng33 ng45 hx hx2 r2
    by_cases c1 : 0 ≤ c ∧ c ≤ 100
    · obtain ⟨k, rfl⟩ : ∃ k : Nat, c = k := ⟨c.toNat, by omega⟩
      have pk : pkOk ⟨N, x, (k : Int)⟩ := ⟨w1, c1⟩
      simp only [Int.toNat_natCast] at p2 p3
      obtain ⟨v46, own46, k46, s1, s2⟩ := K.k46 H4 ⟨N, x, k⟩ ⟨hx4, w1, by simp only; omega⟩
      simp only at k46 s1 s2
      by_cases c2 : okP N k
      · obtain ⟨w43, rfl, tb43⟩ := p3 pk c2
        obtain ⟨w46, rfl, tb46⟩ := s2 c2
        have kp5 : Kp (fun _ => False) H4 (H4.plus own46) := Kp.plus _ _
        generalize hH5 : H4.plus own46 = H5 at *
        have ll : (pwL N k).length = N.length := by simp [pwL]
        have k47 := K.k47 H5 ⟨pwL N k, pwL N k, w43, w46⟩ ⟨tb43.lt.kp (kp3.trans (kp4.trans kp5)), tb46.lt, by simp only; omega, by simp only; omega, fun l hl => by
          simp only [pwL, List.mem_map] at hl
          obtain ⟨i, _, rfl⟩ := hl
          simp only [rwL, lf_len]; omega⟩
        simp only [decide_true] at k47
        clear p1 p2 p3 s1 s2 tb43 tb46 hx3 hx4
        rcases hef with ⟨rfl, rfl⟩ | ⟨rfl, rfl, rfl⟩
        all_goals
          refine W.seq (W.chunk ?_)
          simp (disch := first | omega | exact getEq rfl | exact getO0 | exact Nat.le_of_ble_eq_true rfl) [c10_o0, app_growP, app_noneP, plus_N, plus_at0, put_plus0, put_plus1, upd_N, upd_size, q]
          refine W.seq (W.chunk ?_)
          simp (disch := first | omega | exact getEq rfl | exact getO0 | exact Nat.le_of_ble_eq_true rfl) [c10_o1, app_growP, app_noneP, plus_N, plus_at0, put_plus0, put_plus1, upd_N, upd_size, q, k17, app_if, app_if', hH1]
          refine W.seq (W.chunk ?_)
          simp (disch := first | omega | exact getEq rfl | exact getO0 | exact Nat.le_of_ble_eq_true rfl) [c10_o2, app_growP, app_noneP, plus_N, plus_at0, put_plus0, put_plus1, upd_N, upd_size, q, k43, app_if, app_if', hH2]
          refine W.seq (W.chunk ?_)
          simp (disch := first | omega | exact getEq rfl | exact getO0 | exact Nat.le_of_ble_eq_true rfl) [c10_o3, app_growP, app_noneP, plus_N, plus_at0, put_plus0, put_plus1, upd_N, upd_size, q, k34']
          refine W.seq (W.chunk ?_)
          simp (disch := first | omega | exact getEq rfl | exact getO0 | exact Nat.le_of_ble_eq_true rfl) [c10_o4, app_growP, app_noneP, plus_N, plus_at0, put_plus0, put_plus1, upd_N, upd_size, q, k33, app_if, app_if', hH3]
          refine W.assoc ?_
          refine W.seq (W.chunk ?_)
          simp (disch := first | omega | exact getEq rfl | exact getO0 | exact Nat.le_of_ble_eq_true rfl) [c10_o5, app_growP, app_noneP, plus_N, plus_at0, put_plus0, put_plus1, upd_N, upd_size, q, k21]
          refine W.seq (W.chunk ?_)
          simp (disch := first | omega | exact getEq rfl | exact getO0 | exact Nat.le_of_ble_eq_true rfl) [c10_o6, app_growP, app_noneP, plus_N, plus_at0, put_plus0, put_plus1, upd_N, upd_size, q]
          refine W.seq (W.chunk ?_)
          simp (disch := first | omega | exact getEq rfl | exact getO0 | exact Nat.le_of_ble_eq_true rfl) [c10_o7, app_growP, app_noneP, plus_N, plus_at0, put_plus0, put_plus1, upd_N, upd_size, q, k44']
          refine W.assoc ?_
          refine W.seq (W.chunk ?_)
          simp (disch := first | omega | exact getEq rfl | exact getO0 | exact Nat.le_of_ble_eq_true rfl) [c10_o8, app_growP, app_noneP, plus_N, plus_at0, put_plus0, put_plus1, upd_N, upd_size, q, k45, app_if, app_if', hH4, k24]
          refine W.seq (W.chunk ?_)
          simp (disch := first | omega | exact getEq rfl | exact getO0 | exact Nat.le_of_ble_eq_true rfl) [c10_o9, app_growP, app_noneP, plus_N, plus_at0, put_plus0, put_plus1, upd_N, upd_size, q]
          refine W.assoc ?_
          refine W.seq (W.chunk ?_)
          simp (disch := first | omega | exact getEq rfl | exact getO0 | exact Nat.le_of_ble_eq_true rfl) [c10_o10, app_growP, app_noneP, plus_N, plus_at0, put_plus0, put_plus1, upd_N, upd_size, q]
          refine W.seq (W.chunk ?_)
          simp (disch := first | omega | exact getEq rfl | exact getO0 | exact Nat.le_of_ble_eq_true rfl) [c10_o11, app_growP, app_noneP, plus_N, plus_at0, put_plus0, put_plus1, upd_N, upd_size, q]
          refine W.seq (W.chunk ?_)
          simp (disch := first | omega | exact getEq rfl | exact getO0 | exact Nat.le_of_ble_eq_true rfl) [c10_o12, app_growP, app_noneP, plus_N, plus_at0, put_plus0, put_plus1, upd_N, upd_size, q, k46, app_if, app_if', hH5]
          refine W.assoc ?_
          refine W.seq (W.chunk ?_)
          simp (disch := first | omega | exact getEq rfl | exact getO0 | exact Nat.le_of_ble_eq_true rfl) [c10_o13, app_growP, app_noneP, plus_N, plus_at0, put_plus0, put_plus1, upd_N, upd_size, q]
          refine W.seq (W.chunk ?_)
          simp (disch := first | omega | exact getEq rfl | exact getO0 | exact Nat.le_of_ble_eq_true rfl) [c10_o14, app_growP, app_noneP, plus_N, plus_at0, put_plus0, put_plus1, upd_N, upd_size, q]
          refine W.seq (W.chunk ?_)
          simp (disch := first | omega | exact getEq rfl | exact getO0 | exact Nat.le_of_ble_eq_true rfl) [c10_o15, app_growP, app_noneP, plus_N, plus_at0, put_plus0, put_plus1, upd_N, upd_size, q, k47, k23]
          refine W.ret ?_
          try simp only [thenW_n, thenW_e, thenW_r, blkW_n, blkW_e, blkW_r, if_true]
          exact fin _ _ (by simp [T.get])
      · obtain ⟨rfl, rfl⟩ := p2 pk c2
        obtain ⟨rfl, rfl⟩ := s1 c2
        have e0 : H1 = H2 := by rw [← hH2]; simp [Heap.plus]
        clear p1 p2 p3 s1 s2 hx3 hx4 hH2
        subst e0
        rcases hef with ⟨rfl, rfl⟩ | ⟨rfl, rfl, rfl⟩
        all_goals
          refine W.seq (W.chunk ?_)
          simp (disch := first | omega | exact getEq rfl | exact getO0 | exact Nat.le_of_ble_eq_true rfl) [c10_o0, app_growP, app_noneP, plus_N, plus_at0, put_plus0, put_plus1, upd_N, upd_size, q]
          refine W.seq (W.chunk ?_)
          simp (disch := first | omega | exact getEq rfl | exact getO0 | exact Nat.le_of_ble_eq_true rfl) [c10_o1, app_growP, app_noneP, plus_N, plus_at0, put_plus0, put_plus1, upd_N, upd_size, q, k17, app_if, app_if', hH1]
          refine W.seq (W.chunk ?_)
          simp (disch := first | omega | exact getEq rfl | exact getO0 | exact Nat.le_of_ble_eq_true rfl) [c10_o2, app_growP, app_noneP, plus_N, plus_at0, put_plus0, put_plus1, upd_N, upd_size, q, k43]
          refine W.seq (W.chunk ?_)
          simp (disch := first | omega | exact getEq rfl | exact getO0 | exact Nat.le_of_ble_eq_true rfl) [c10_o3, app_growP, app_noneP, plus_N, plus_at0, put_plus0, put_plus1, upd_N, upd_size, q, k34']
          refine W.seq (W.chunk ?_)
          simp (disch := first | omega | exact getEq rfl | exact getO0 | exact Nat.le_of_ble_eq_true rfl) [c10_o4, app_growP, app_noneP, plus_N, plus_at0, put_plus0, put_plus1, upd_N, upd_size, q, k33, app_if, app_if', hH3]
          refine W.assoc ?_
          refine W.seq (W.chunk ?_)
          simp (disch := first | omega | exact getEq rfl | exact getO0 | exact Nat.le_of_ble_eq_true rfl) [c10_o5, app_growP, app_noneP, plus_N, plus_at0, put_plus0, put_plus1, upd_N, upd_size, q, k21]
          refine W.seq (W.chunk ?_)
          simp (disch := first | omega | exact getEq rfl | exact getO0 | exact Nat.le_of_ble_eq_true rfl) [c10_o6, app_growP, app_noneP, plus_N, plus_at0, put_plus0, put_plus1, upd_N, upd_size, q]
          refine W.seq (W.chunk ?_)
          simp (disch := first | omega | exact getEq rfl | exact getO0 | exact Nat.le_of_ble_eq_true rfl) [c10_o7, app_growP, app_noneP, plus_N, plus_at0, put_plus0, put_plus1, upd_N, upd_size, q, k44']
          refine W.assoc ?_
          refine W.seq (W.chunk ?_)
          simp (disch := first | omega | exact getEq rfl | exact getO0 | exact Nat.le_of_ble_eq_true rfl) [c10_o8, app_growP, app_noneP, plus_N, plus_at0, put_plus0, put_plus1, upd_N, upd_size, q, k45, app_if, app_if', hH4, k24]
          refine W.seq (W.chunk ?_)
          simp (disch := first | omega | exact getEq rfl | exact getO0 | exact Nat.le_of_ble_eq_true rfl) [c10_o9, app_growP, app_noneP, plus_N, plus_at0, put_plus0, put_plus1, upd_N, upd_size, q]
          refine W.assoc ?_
          refine W.seq (W.chunk ?_)
          simp (disch := first | omega | exact getEq rfl | exact getO0 | exact Nat.le_of_ble_eq_true rfl) [c10_o10, app_growP, app_noneP, plus_N, plus_at0, put_plus0, put_plus1, upd_N, upd_size, q]
          refine W.seq (W.chunk ?_)
          simp (disch := first | omega | exact getEq rfl | exact getO0 | exact Nat.le_of_ble_eq_true rfl) [c10_o11, app_growP, app_noneP, plus_N, plus_at0, put_plus0, put_plus1, upd_N, upd_size, q]
          refine W.seq (W.chunk ?_)
          simp (disch := first | omega | exact getEq rfl | exact getO0 | exact Nat.le_of_ble_eq_true rfl) [c10_o12, app_growP, app_noneP, plus_N, plus_at0, put_plus0, put_plus1, upd_N, upd_size, q, k46]
          refine W.assoc ?_
          refine W.seq (W.chunk ?_)
          simp (disch := first | omega | exact getEq rfl | exact getO0 | exact Nat.le_of_ble_eq_true rfl) [c10_o13, app_growP, app_noneP, plus_N, plus_at0, put_plus0, put_plus1, upd_N, upd_size, q]
          refine W.seq (W.chunk ?_)
          simp (disch := first | omega | exact getEq rfl | exact getO0 | exact Nat.le_of_ble_eq_true rfl) [c10_o14, app_growP, app_noneP, plus_N, plus_at0, put_plus0, put_plus1, upd_N, upd_size, q, k23]
          exact fin _ _ (by simp [T.get])
    · obtain ⟨rfl, rfl⟩ := p1 (fun q => c1 q.2)
      have e0 : H1 = H2 := by rw [← hH2]; simp [Heap.plus]
      clear p1 p2 p3 hx3 hx4 hH2
      subst e0
      have cc : c < 0 ∨ (0 ≤ c ∧ 100 < c) := by omega
      rcases hef with ⟨rfl, rfl⟩ | ⟨rfl, rfl, rfl⟩ <;> rcases cc with cc | cc
      all_goals
        refine W.seq (W.chunk ?_)
        simp (disch := first | omega | exact getEq rfl | exact getO0 | exact Nat.le_of_ble_eq_true rfl) [c10_o0, app_growP, app_noneP, plus_N, plus_at0, put_plus0, put_plus1, upd_N, upd_size, q]
        refine W.seq (W.chunk ?_)
        simp (disch := first | omega | exact getEq rfl | exact getO0 | exact Nat.le_of_ble_eq_true rfl) [c10_o1, app_growP, app_noneP, plus_N, plus_at0, put_plus0, put_plus1, upd_N, upd_size, q, k17, app_if, app_if', hH1]
        refine W.seq (W.chunk ?_)
        simp (disch := first | omega | exact getEq rfl | exact getO0 | exact Nat.le_of_ble_eq_true rfl) [c10_o2, app_growP, app_noneP, plus_N, plus_at0, put_plus0, put_plus1, upd_N, upd_size, q, k43]
        refine W.seq (W.chunk ?_)
        simp (disch := first | omega | exact getEq rfl | exact getO0 | exact Nat.le_of_ble_eq_true rfl) [c10_o3, app_growP, app_noneP, plus_N, plus_at0, put_plus0, put_plus1, upd_N, upd_size, q, k34']
        refine W.seq (W.chunk ?_)
        simp (disch := first | omega | exact getEq rfl | exact getO0 | exact Nat.le_of_ble_eq_true rfl) [c10_o4, app_growP, app_noneP, plus_N, plus_at0, put_plus0, put_plus1, upd_N, upd_size, q, k33, app_if, app_if', hH3]
        refine W.assoc ?_
        refine W.seq (W.chunk ?_)
        simp (disch := first | omega | exact getEq rfl | exact getO0 | exact Nat.le_of_ble_eq_true rfl) [c10_o5, app_growP, app_noneP, plus_N, plus_at0, put_plus0, put_plus1, upd_N, upd_size, q, k21]
        refine W.seq (W.chunk ?_)
        simp (disch := first | omega | exact getEq rfl | exact getO0 | exact Nat.le_of_ble_eq_true rfl) [c10_o6, app_growP, app_noneP, plus_N, plus_at0, put_plus0, put_plus1, upd_N, upd_size, q]
        refine W.seq (W.chunk ?_)
        simp (disch := first | omega | exact getEq rfl | exact getO0 | exact Nat.le_of_ble_eq_true rfl) [c10_o7, app_growP, app_noneP, plus_N, plus_at0, put_plus0, put_plus1, upd_N, upd_size, q, k44']
        refine W.assoc ?_
        refine W.seq (W.chunk ?_)
        simp (disch := first | omega | exact getEq rfl | exact getO0 | exact Nat.le_of_ble_eq_true rfl) [c10_o8, app_growP, app_noneP, plus_N, plus_at0, put_plus0, put_plus1, upd_N, upd_size, q, k45, app_if, app_if', hH4, k24]
        refine W.seq (W.chunk ?_)
        simp (disch := first | omega | exact getEq rfl | exact getO0 | exact Nat.le_of_ble_eq_true rfl) [c10_o9, app_growP, app_noneP, plus_N, plus_at0, put_plus0, put_plus1, upd_N, upd_size, q]
        refine W.assoc ?_
        refine W.seq (W.chunk ?_)
        simp (disch := first | omega | exact getEq rfl | exact getO0 | exact Nat.le_of_ble_eq_true rfl) [c10_o10, app_growP, app_noneP, plus_N, plus_at0, put_plus0, put_plus1, upd_N, upd_size, q]
        refine W.seq (W.chunk ?_)
        simp (disch := first | omega | exact getEq rfl | exact getO0 | exact Nat.le_of_ble_eq_true rfl) [c10_o11, app_growP, app_noneP, plus_N, plus_at0, put_plus0, put_plus1, upd_N, upd_size, q, k23]
        exact fin _ _ (by simp [T.get])
theorem powers_ok (h : Heap) (c : Int) {m : AV} {M : List (List Int)} (hm : MR h m M) : CallsTo tbl T20 10 [m, G c] h (.bool true, [], false) := powers_law T20 knP (fun _ _ => by simp (disch := decide) only [T20, T19, T18, T17, T16, T15, T14, T13, T12, T11, T10, T9, T8, T7, T6, T5, T4, T3, T2, T1, R21, R20, R19, R18, R17, R16, R15, R14, R13, R12, R11, R10, R9, R8, R7, R6, R5, R4, R3, R2, R1, addI_ne, addX_ne, addV_ne, addK_ne]; rfl) h c hm

end Go.Proofs.Ytjeemgaoonapgaa.Ev
