/-
  Of the functions that this law reaches, part 3: what they answer. No condition.
-/
import Derived.Test.YtjeemgaoonapgaaRP2
import Derived.Test.YtjeemgaoonapgaaRP1
import Derived.Test.YtjeemgaoonapgaaRP0
set_option linter.unusedVariables false
set_option linter.unusedSimpArgs false
namespace Go.Proofs.Ytjeemgaoonapgaa.Ev
open Go Go.AEv
attribute [local simp] evFunc initS evOps_c evTrim_c evSkip_c evExit_c evRet_c evSeq_c evCond_c evBlock_c evDraw_c runOps_n runOps_c exec_n exec_g pure1_c act AOpd.ev T.get T.set T.put evBin evUn forceT_eq forceV_eq forceL_eq evRess evRes one keep runFP_n runFP_c app_none AV.flats AV.flat came_some List.getElem?_cons_zero List.getElem?_cons_succ beqT wrapI idxI tdivI tmodI decT decF ibT ibF inT inF evScope_c if_pos if_neg Cm_some thenW_n thenW_e thenW_r blkW_n blkW_e blkW_r goI kn putAt AV.cells fillA loadA takeA mk Eff.isAll Eff.isNone Eff.commutes Eff.spares okPair apart eqAgg fits LK.fits allEq aveq eqk mmA
theorem cyc_eq {M : List (List Int)} {i c d : Nat} (a : cyc M i c) (b : cyc M i d) : c = d := by
  rcases Nat.lt_trichotomy c d with l | l | l
  · have := b.2.2.2 c a.1 l; rw [a.2.2.1] at this; cases this
  · exact l
  · have := a.2.2.2 d b.1 l; rw [b.2.2.1] at this; cases this
structure KnY (J : CallF) : Prop where
  k17 : K17 J
  k21 : K21 J
  k23 : ∀ h, J 23 [] h = some (.bool true, [], false)
  k24 : K24 J
  k37 : K37 J
  k38 : K38 J
  k39 : K39 J
  k40 : K40 J
  k41 : K41 J
  k42 : K42 J
theorem knY : KnY T38 where
  k17 := fun h y M hy => by
    simp (disch := decide) only [T38, T37, T36, T35, T34, T33, T32, T31, T30, T29, T28, T27, T26, T25, T24, T23, T22, T21, T20, T19, T18, T17, T16, T15, T14, T13, T12, T11, T10, T9, T8, T7, T6, T5, T4, T3, T2, T1, addI_ne, addX_ne, addV_ne, addK_ne]
    exact k17_r h y M hy
  k21 := fun h y M hy hb => by
    simp (disch := decide) only [T38, T37, T36, T35, T34, T33, T32, T31, T30, T29, T28, T27, T26, T25, T24, T23, T22, T21, T20, T19, T18, T17, T16, T15, T14, T13, T12, T11, T10, T9, T8, T7, T6, T5, T4, T3, T2, T1, addI_ne, addX_ne, addV_ne, addK_ne]
    exact k21_r h y M hy hb
  k23 := fun h => by
    simp (disch := decide) only [T38, T37, T36, T35, T34, T33, T32, T31, T30, T29, T28, T27, T26, T25, T24, T23, T22, T21, T20, T19, T18, T17, T16, T15, T14, T13, T12, T11, T10, T9, T8, T7, T6, T5, T4, T3, T2, T1, addI_ne, addX_ne, addV_ne, addK_ne]
    exact k23_r h
  k24 := fun h x y a b hx hy hn => by
    simp (disch := decide) only [T38, T37, T36, T35, T34, T33, T32, T31, T30, T29, T28, T27, T26, T25, T24, T23, T22, T21, T20, T19, T18, T17, T16, T15, T14, T13, T12, T11, T10, T9, T8, T7, T6, T5, T4, T3, T2, T1, addI_ne, addX_ne, addV_ne, addK_ne]
    exact k24_r h x y a b hx hy hn
  k37 := fun h a ha => by
    simp (disch := decide) only [T38, T37, T36, addK_ne]
    exact k37 h a ha
  k38 := fun h a ha => by
    simp (disch := decide) only [T38, T37, T36, T35, T34, addK_ne]
    exact k38 h a ha
  k39 := k39
  k40 := fun h a ha => by
    simp (disch := decide) only [T38, addK_ne]
    exact k40 h a ha
  k41 := fun h a ha => by
    simp (disch := decide) only [T38, T37, addK_ne]
    exact k41 h a ha
  k42 := fun h a ha => by
    simp (disch := decide) only [T38, T37, T36, T35, addK_ne]
    exact k42 h a ha
theorem cycles_law (J : CallF) (K : KnY J) (hJ : ∀ a h, J 8 a h = none) (h : Heap) (c : Int) {m : AV} {M : List (List Int)} (hm : MR h m M) : CallsTo tbl J 8 [m, G c] h (.bool true, [], false) := by
  refine Tr.fnv (cf := c8) (e := .ret) (s := T.set (T.set .leaf [] m) [false] (G c)) (by decide) rfl (hJ _ _) rfl rfl rfl (by simp) ?_
  refine Tr.w fun s1 H1 hp R kR => ?_
  obtain ⟨rfl, rfl⟩ := hp
  have q : True := trivial
  have fin : ∀ s h', s.get [true, false] = .bool true → R .ret s h' := fun s h' a => kR _ _ ⟨[.bool true], by simp [c8, evRess, evRes, a], rfl⟩
  clear kR
  have hm0 : MR (frameOf h) m M := hm.lo []
  obtain ⟨x, own, k17, tg⟩ := K.k17 _ m M hm0
  have hx := tg.mr
  have hlN := cutM_len M
  have k23 := K.k23
  generalize cutM M = N at *
  clear tg hm0
  generalize hH1 : (frameOf h).plus own = H1 at *
  obtain ⟨v37, own37, k37, a37, b37⟩ := K.k37 H1 ⟨N, x, c⟩ hx
  simp only at k37 a37 b37
  by_cases il : inL ⟨N, x, c⟩
  · obtain ⟨hN, hc1, hc2⟩ := id il
    simp only at hN hc1 hc2
    have h8 := isMat_n hN
    obtain ⟨i, rfl⟩ : ∃ i : Nat, c = i := ⟨c.toNat, by omega⟩
    simp only [Int.toNat_natCast] at b37
    have hiN : i < N.length := by omega
    rcases b37 il with ⟨nc, rfl, rfl⟩ | ⟨cc, hcc, w37, rfl, ng37⟩
    · have pz := noCyc_per hN hiN nc
      obtain ⟨v38, own38, k38, _, p38, _⟩ := K.k38 H1 ⟨N, x, i⟩ hx
      simp only [Int.toNat_natCast] at k38 p38
      obtain ⟨rfl, rfl⟩ := p38 il pz
      obtain ⟨v39, own39, k39, rfl, _, p39⟩ := K.k39 H1 ⟨N, x, i⟩ hx
      simp only [Int.toNat_natCast] at k39 p39
      obtain rfl := p39 il
      obtain ⟨v40, own40, k40, rfl, rfl⟩ := K.k40 H1 ⟨N, x, i⟩ ⟨hx, hN, hiN⟩
      obtain ⟨v41, own41, k41, p41⟩ := K.k41 H1 ⟨N, x, i⟩ ⟨hx, hN, hiN⟩
      simp only at k40 k41
      rcases p41 with ⟨_, rfl, rfl⟩ | ⟨c2, hc2', _⟩
      · obtain ⟨v42, own42, k42, p42⟩ := K.k42 H1 ⟨N, x, i⟩ ⟨hx, hN, hiN⟩
        simp only at k42
        obtain ⟨rfl, rfl⟩ : v42 = .tup [.nils, .bool false] ∧ own42 = [] := by
          rcases p42 with ⟨_, a, b⟩ | ⟨n, _⟩
          · exact ⟨a, b⟩
          · exact absurd pz n
        have k21 := K.k21 H1 x N hx (by omega)
        rw [hN] at k21
        obtain ⟨b, v, cs, rfl, mx⟩ := hx.mx hN
        clear hx mx p38 p39 p42 a37 b37 il nc
        generalize gwV N i = g at *
        refine W.seq (W.chunk ?_)
        simp (disch := first|omega|exact zE rfl|exact zO|exact zL rfl) [c8_o0, zG, q]
        refine W.seq (W.chunk ?_)
        simp (disch := first|omega|exact zE rfl|exact zO|exact zL rfl) [c8_o1, zG, q, k17, app_if, app_if', hH1]
        refine W.seq (W.chunk ?_)
        simp (disch := first|omega|exact zE rfl|exact zO|exact zL rfl) [c8_o2, zG, q, k37]
        refine W.seq (W.chunk ?_)
        simp (disch := first|omega|exact zE rfl|exact zO|exact zL rfl) [c8_o3, zG, q, k38]
        refine W.seq (W.chunk ?_)
        simp (disch := first|omega|exact zE rfl|exact zO|exact zL rfl) [c8_o4, zG, q, k39]
        refine W.assoc ?_
        refine W.seq (W.chunk ?_)
        simp (disch := first|omega|exact zE rfl|exact zO|exact zL rfl) [c8_o5, zG, q, k21]
        refine W.seq (W.chunk ?_)
        simp (disch := first|omega|exact zE rfl|exact zO|exact zL rfl) [c8_o6, zG, q]
        refine W.assoc ?_
        refine W.seq (W.chunk ?_)
        simp (disch := first|omega|exact zE rfl|exact zO|exact zL rfl) [c8_o7, zG, q, k40]
        refine W.seq (W.chunk ?_)
        simp (disch := first|omega|exact zE rfl|exact zO|exact zL rfl) [c8_o8, zG, q]
        refine W.seq (W.chunk ?_)
        simp (disch := first|omega|exact zE rfl|exact zO|exact zL rfl) [c8_o9, zG, q, k41]
        refine W.seq (W.chunk ?_)
        simp (disch := first|omega|exact zE rfl|exact zO|exact zL rfl) [c8_o10, zG, q, k42]
        refine W.assoc ?_
        refine W.seq (W.chunk ?_)
        simp (disch := first|omega|exact zE rfl|exact zO|exact zL rfl) [c8_o11, zG, q]
        refine W.seq (W.chunk ?_)
        simp (disch := first|omega|exact zE rfl|exact zO|exact zL rfl) [c8_o12, zG, q, k23]
        exact fin _ _ (by simp [T.get])
      · have := nc c2 hc2'.1 hc2'.2.1
        rw [hc2'.2.2.1] at this; cases this
    · obtain ⟨pn, pd⟩ := cyc_per hN hiN hcc
      have kp1 : Kp (fun _ => False) H1 (H1.plus own37) := Kp.plus _ _
      have hx2 := hx.kp kp1
      generalize hH2 : H1.plus own37 = H2 at *
      obtain ⟨v38, own38, k38, _, _, p38⟩ := K.k38 H2 ⟨N, x, i⟩ hx2
      simp only [Int.toNat_natCast] at k38 p38
      obtain ⟨w38, rfl, ng38⟩ := p38 il pn
      have kp2 : Kp (fun _ => False) H2 (H2.plus own38) := Kp.plus _ _
      have hx3 := hx2.kp kp2
      generalize hH3 : H2.plus own38 = H3 at *
      obtain ⟨v39, own39, k39, rfl, _, p39⟩ := K.k39 H3 ⟨N, x, i⟩ hx3
      simp only [Int.toNat_natCast] at k39 p39
      obtain rfl := p39 il
      obtain ⟨v40, own40, k40, rfl, rfl⟩ := K.k40 H3 ⟨N, x, i⟩ ⟨hx3, hN, hiN⟩
      obtain ⟨v41, own41, k41, p41⟩ := K.k41 H3 ⟨N, x, i⟩ ⟨hx3, hN, hiN⟩
      simp only at k40 k41 p41
      have kp3 : Kp (fun _ => False) H3 (H3.plus own41) := Kp.plus _ _
      rcases p41 with ⟨nc, _, _⟩ | ⟨c2, hc2', w41, rfl, ng41⟩
      · have := nc cc hcc.1 hcc.2.1
        rw [hcc.2.2.1] at this; cases this
      · obtain rfl := cyc_eq hcc hc2'
        have hx4 := hx3.kp kp3
        generalize hH4 : H3.plus own41 = H4 at *
        obtain ⟨v42, own42, k42, p42⟩ := K.k42 H4 ⟨N, x, i⟩ ⟨hx4, hN, hiN⟩
        simp only at k42 p42
        obtain ⟨w42, rfl, ng42⟩ : ∃ w, v42 = .tup [w, .bool true] ∧ NG H4 (H4.plus own42) w (lyL N i) := by
          rcases p42 with ⟨n, _⟩ | ⟨_, a⟩
          · exact absurd n pn
          · exact a
        have kp4 : Kp (fun _ => False) H4 (H4.plus own42) := Kp.plus _ _
        generalize hH5 : H4.plus own42 = H5 at *
        have e1 := K.k24 H5 w37 w41 _ _ (ng37.kp (kp2.trans (kp3.trans kp4))).list (ng41.kp kp4).list (by simp only [wkL, List.length_cons, wlk_ln]; have := hcc.2.1; omega)
        rw [decide_eq_true rfl] at e1
        have e2 := K.k24 H5 w38 w42 _ _ (ng38.kp (kp3.trans kp4)).list ng42.list (by unfold lyL; rw [lf_len]; omega)
        rw [decide_eq_true rfl] at e2
        have k21 := K.k21 H3 x N hx3 (by omega)
        rw [hN] at k21
        obtain ⟨b, v, cs, rfl, mx⟩ := hx.mx hN
        clear hx hx2 hx3 hx4 mx p38 p39 p42 a37 b37 il ng37 ng38 ng41 ng42 hcc hc2' pd
        generalize gwV N i = g at *
        refine W.seq (W.chunk ?_)
        simp (disch := first|omega|exact zE rfl|exact zO|exact zL rfl) [c8_o0, zG, q]
        refine W.seq (W.chunk ?_)
        simp (disch := first|omega|exact zE rfl|exact zO|exact zL rfl) [c8_o1, zG, q, k17, app_if, app_if', hH1]
        refine W.seq (W.chunk ?_)
        simp (disch := first|omega|exact zE rfl|exact zO|exact zL rfl) [c8_o2, zG, q, k37, app_if, app_if', hH2]
        refine W.seq (W.chunk ?_)
        simp (disch := first|omega|exact zE rfl|exact zO|exact zL rfl) [c8_o3, zG, q, k38, app_if, app_if', hH3]
        refine W.seq (W.chunk ?_)
        simp (disch := first|omega|exact zE rfl|exact zO|exact zL rfl) [c8_o4, zG, q, k39]
        refine W.assoc ?_
        refine W.seq (W.chunk ?_)
        simp (disch := first|omega|exact zE rfl|exact zO|exact zL rfl) [c8_o5, zG, q, k21]
        refine W.seq (W.chunk ?_)
        simp (disch := first|omega|exact zE rfl|exact zO|exact zL rfl) [c8_o6, zG, q]
        refine W.assoc ?_
        refine W.seq (W.chunk ?_)
        simp (disch := first|omega|exact zE rfl|exact zO|exact zL rfl) [c8_o7, zG, q, k40]
        refine W.seq (W.chunk ?_)
        simp (disch := first|omega|exact zE rfl|exact zO|exact zL rfl) [c8_o8, zG, q]
        refine W.seq (W.chunk ?_)
        simp (disch := first|omega|exact zE rfl|exact zO|exact zL rfl) [c8_o9, zG, q, k41, app_if, app_if', hH4]
        refine W.seq (W.chunk ?_)
        simp (disch := first|omega|exact zE rfl|exact zO|exact zL rfl) [c8_o10, zG, q, k42, app_if, app_if', hH5]
        refine W.assoc ?_
        refine W.seq (W.chunk ?_)
        simp (disch := first|omega|exact zE rfl|exact zO|exact zL rfl) [c8_o11, zG, q]
        refine W.seq (W.chunk ?_)
        simp (disch := first|omega|exact zE rfl|exact zO|exact zL rfl) [c8_o12, zG, q]
        refine W.seq (W.chunk ?_)
        simp (disch := first|omega|exact zE rfl|exact zO|exact zL rfl) [c8_o13, zG, q, e1, e2, k23]
        refine W.ret ?_
        try simp only [zW, if_true]
        exact fin _ _ (by simp [T.get])
  · obtain ⟨rfl, rfl⟩ := a37 il
    obtain ⟨v38, own38, k38, p38, _⟩ := K.k38 H1 ⟨N, x, c⟩ hx
    obtain ⟨rfl, rfl⟩ := p38 il
    obtain ⟨v39, own39, k39, rfl, p39, _⟩ := K.k39 H1 ⟨N, x, c⟩ hx
    obtain rfl := p39 il
    simp only at k38 k39
    have k21 := K.k21 H1 x N hx (by omega)
    have sl := hx.sl
    cases w : isMat N
    · rw [w] at k21
      clear hx b37 p38 p39
      refine W.seq (W.chunk ?_)
      simp (disch := first|omega|exact zE rfl|exact zO|exact zL rfl) [c8_o0, zG, q]
      refine W.seq (W.chunk ?_)
      simp (disch := first|omega|exact zE rfl|exact zO|exact zL rfl) [c8_o1, zG, q, k17, app_if, app_if', hH1]
      refine W.seq (W.chunk ?_)
      simp (disch := first|omega|exact zE rfl|exact zO|exact zL rfl) [c8_o2, zG, q, k37]
      refine W.seq (W.chunk ?_)
      simp (disch := first|omega|exact zE rfl|exact zO|exact zL rfl) [c8_o3, zG, q, k38]
      refine W.seq (W.chunk ?_)
      simp (disch := first|omega|exact zE rfl|exact zO|exact zL rfl) [c8_o4, zG, q, k39]
      refine W.assoc ?_
      refine W.seq (W.chunk ?_)
      simp (disch := first|omega|exact zE rfl|exact zO|exact zL rfl) [c8_o5, zG, q, k21]
      refine W.seq (W.chunk ?_)
      simp (disch := first|omega|exact zE rfl|exact zO|exact zL rfl) [c8_o6, zG, q, k23]
      exact fin _ _ (by simp [T.get])
    · rw [w] at k21
      have h8 := isMat_n w
      have ic : c < 0 ∨ (0 ≤ c ∧ (N.length : Int) ≤ c) := by
        by_cases a : 0 ≤ c
        · by_cases b : c < N.length
          · exact absurd ⟨w, a, b⟩ il
          · exact .inr ⟨a, by omega⟩
        · exact .inl (by omega)
      obtain ⟨b, v, cs, rfl, mx⟩ := hx.mx w
      clear hx b37 p38 p39 mx
      rcases ic with ic | ic
      all_goals
        refine W.seq (W.chunk ?_)
        simp (disch := first|omega|exact zE rfl|exact zO|exact zL rfl) [c8_o0, zG, q]
        refine W.seq (W.chunk ?_)
        simp (disch := first|omega|exact zE rfl|exact zO|exact zL rfl) [c8_o1, zG, q, k17, app_if, app_if', hH1]
        refine W.seq (W.chunk ?_)
        simp (disch := first|omega|exact zE rfl|exact zO|exact zL rfl) [c8_o2, zG, q, k37]
        refine W.seq (W.chunk ?_)
        simp (disch := first|omega|exact zE rfl|exact zO|exact zL rfl) [c8_o3, zG, q, k38]
        refine W.seq (W.chunk ?_)
        simp (disch := first|omega|exact zE rfl|exact zO|exact zL rfl) [c8_o4, zG, q, k39]
        refine W.assoc ?_
        refine W.seq (W.chunk ?_)
        simp (disch := first|omega|exact zE rfl|exact zO|exact zL rfl) [c8_o5, zG, q, k21]
        refine W.seq (W.chunk ?_)
        simp (disch := first|omega|exact zE rfl|exact zO|exact zL rfl) [c8_o6, zG, q, k23]
        exact fin _ _ (by simp [T.get])
theorem cycles_ok (h : Heap) (c : Int) {m : AV} {M : List (List Int)} (hm : MR h m M) : CallsTo tbl T38 8 [m, G c] h (.bool true, [], false) := cycles_law T38 knY (fun _ _ => by simp (disch := decide) only [T38, T37, T36, T35, T34, T33, T32, T31, T30, T29, T28, T27, T26, T25, T24, T23, T22, T21, T20, T19, T18, T17, T16, T15, T14, T13, T12, T11, T10, T9, T8, T7, T6, T5, T4, T3, T2, T1, R21, R20, R19, R18, R17, R16, R15, R14, R13, R12, R11, R10, R9, R8, R7, R6, R5, R4, R3, R2, R1, addI_ne, addX_ne, addV_ne, addK_ne]; rfl) h c hm
end Go.Proofs.Ytjeemgaoonapgaa.Ev
set_option linter.unusedVariables false
set_option linter.unusedSimpArgs false
namespace Go.AEv
open Go.ChangeShapes Go.WideShapes Go.Proofs.Ytjeemgaoonapgaa.Ev
theorem MR.ext {h h' : Heap} (e : Ext h h') {y : AV} {M : List (List Int)} (m : MR h y M) : MR h' y M := by
  rcases m with m | ⟨b, v, cs, rfl, g, hl, hr⟩
  · exact .inl m
  · refine .inr ⟨b, v, cs, rfl, e _ _ g (by simp), hl, fun i r q => ?_⟩
    obtain ⟨l, h1, h2⟩ := hr i r q
    exact ⟨l, h1, LR.ext e h2⟩
theorem rows_lo {CK : CKT} {w : World} {H : Type} {enc : TypeId × Value → H} {P : Program} {e i : TypeId} (he : P.underlying e = some (.slice i)) (hi : P.underlying i = some (.int .i64)) (hc : P.cellsOf i = 1) :
    ∀ (vs : List Value) {φ : Nat → Emb} {h : Heap} (ho : h.own = []) (hr : HR CK w [] φ h w), (∀ u ∈ vs, ∃ fuel z, DataW.trod enc P w 0 (fun _ => true) true fuel e [u] = some z) →
    ∃ φ' h', ∃ (rs : List AV) (ls : List (List Int)), h'.own = [] ∧ HR CK w [] φ' h' w ∧ Stp φ h φ' h' ∧ Ext h h' ∧ rs.length = vs.length ∧ ls.length = vs.length ∧ ∀ (j : Nat) u r, vs[j]? = some u → rs[j]? = some r → VR φ' h' r u ∧ Value.oneCell' u = true ∧ ∃ l, ls[j]? = some l ∧ LR h' r l
  | [], φ, h, ho, hr, _ => ⟨φ, h, [], [], ho, hr, Stp.refl φ h, Ext.refl h, rfl, rfl, fun j u r q => by simp at q⟩
  | u :: us, φ, h, ho, hr, ht => by
    obtain ⟨fuel, z, hf⟩ := ht u (by simp)
    obtain ⟨φ1, h1, x, l, o1, r1, s1, e1, v1, p1, c1⟩ := ints_lo0 ho hr he hi hc hf
    obtain ⟨φ2, h2, rs, ls, o2, r2, s2, e2, l1, l2, q⟩ := rows_lo he hi hc us o1 r1 (fun u' hu => ht u' (by simp [hu]))
    refine ⟨φ2, h2, x :: rs, l :: ls, o2, r2, s1.trans s2, e1.trans e2, by simp [l1], by simp [l2], fun j u' r hu hr' => ?_⟩
    cases j with
    | zero =>
      simp only [List.getElem?_cons_zero, Option.some.injEq] at hu hr'
      subst hu hr'
      exact ⟨VR.step s2 _ _ v1, c1, l, rfl, p1.ext e2⟩
    | succ j =>
      simp only [List.getElem?_cons_succ] at hu hr' ⊢
      exact q j u' r hu hr'
theorem mat_lo {CK : CKT} {φ : Nat → Emb} {h : Heap} {w : World} (ho : h.own = []) (hr : HR CK w [] φ h w) {H : Type} {enc : TypeId × Value → H} {P : Program} {t e i : TypeId} {v : Value} {d : DataW H} {p : List MemPlace}
    (ht : P.underlying t = some (.slice e)) (he : P.underlying e = some (.slice i)) (hi : P.underlying i = some (.int .i64)) (hce : P.cellsOf e = 1) (hci : P.cellsOf i = 1) (hvs : ∃ a len cap, v = .slice a len cap) (k : DataW.Trod enc P w 0 (fun _ => true) true t v d p) :
    ∃ φ' h' x M, h'.own = [] ∧ HR CK w [] φ' h' w ∧ Stp φ h φ' h' ∧ Ext h h' ∧ VR φ' h' x v ∧ MR h' x M := by
  obtain ⟨va, vl, vc, rfl⟩ := hvs
  obtain ⟨fuel, hf⟩ := k
  rcases DataW.trod_slice ht hf with ⟨hcs, _⟩ | ⟨a, len, cap, elems, rest, n, _, hcs, _, _, hl, hm, hlen, hel, hsp, _⟩
  · have hcs' : Value.slice va vl vc = .slice none 0 0 := (List.cons.inj hcs).1
    rw [hcs']
    exact ⟨φ, h, .nils, [], ho, hr, Stp.refl φ h, Ext.refl h, by simp [VR], .inl ⟨.inl rfl, rfl⟩⟩
  · have hcs' : Value.slice va vl vc = .slice (some a) len cap := (List.cons.inj hcs).1
    rw [hcs']
    by_cases h0 : len = 0
    · subst h0
      exact ⟨φ, h, .slice0, [], ho, hr, Stp.refl φ h, Ext.refl h, by simp [VR], .inl ⟨.inr rfl, rfl⟩⟩
    · obtain ⟨hrl, hre⟩ := hsp rfl
      have each : ∀ j, j < cap → ∃ u, w.cell? (a.add j) = some u ∧ ∃ z, DataW.trod enc P w 0 (fun _ => true) true n e [u] = some z := fun j hj => by
        have hb' : ∃ y, (w.cells? 0 (a.add (j * P.cellsOf e)) (P.cellsOf e)).bind (DataW.trod enc P w 0 (fun _ => true) true n e) = some y := by
          by_cases hjl : j < len
          · rw [hel j hjl, List.getElem?_eq_getElem (by omega)]; exact ⟨_, rfl⟩
          · have := hre (j - len) (by omega)
            rw [show len + (j - len) = j by omega] at this
            rw [this, List.getElem?_eq_getElem (by omega)]; exact ⟨_, rfl⟩
        obtain ⟨y, hy⟩ := hb'
        rw [hce, Nat.mul_one, Option.bind_eq_some_iff] at hy
        obtain ⟨cs', h1, h2⟩ := hy
        have hl1 := (World.cells?_some h1).2.1
        obtain ⟨u, rfl⟩ : ∃ u, cs' = [u] := by
          cases cs' with
          | nil => simp at hl1
          | cons u r => cases r with
            | nil => exact ⟨u, rfl⟩
            | cons u' r => simp at hl1
        exact ⟨u, cell_of_cells?_one h1, y, h2⟩
      obtain ⟨f, hfe⟩ : ∃ f : Nat → Value, ∀ j, j < cap → w.cell? (a.add j) = some (f j) ∧ ∃ z, DataW.trod enc P w 0 (fun _ => true) true n e [f j] = some z :=
        ⟨fun j => if hj : j < cap then Classical.choose (each j hj) else .nilFunc, fun j hj => by
          simp only [dif_pos hj]
          exact Classical.choose_spec (each j hj)⟩
      obtain ⟨b, off, spot⟩ := a
      have hspot : spot = none := by simpa [Addr.add] using World.cell?_spot (hfe 0 (by omega)).1
      subst hspot
      have hcell : ∀ j, j < cap → w.cell? ⟨b, off + j, none⟩ = some (f j) := fun j hj => by rw [← Go.WideShapes.add_plain]; exact (hfe j hj).1
      obtain ⟨c, ty, fr, hb, hc0⟩ := cell_obj (hcell 0 (by omega))
      have hcj : ∀ j, j < cap → c[off + j]? = some (f j) := fun j hj => by
        obtain ⟨c', ty', fr', hb', hcj⟩ := cell_obj (hcell j hj)
        rw [hb] at hb'
        simp only [Option.some.injEq, Obj.cells.injEq] at hb'
        obtain ⟨rfl, _⟩ := hb'
        exact hcj
      have hsize : off + cap ≤ c.size := by
        have := (Array.getElem?_eq_some_iff.1 (hcj (cap - 1) (by omega))).1
        omega
      obtain ⟨φ1, h1, rs, ls, o1, r1, s1, e1, l1, l2, q⟩ := rows_lo he hi hci ((List.range len).map f) ho hr (fun u hu => by
        obtain ⟨j, hj, rfl⟩ := List.mem_map.1 hu
        obtain ⟨z, hz⟩ := (hfe j (by have := List.mem_range.1 hj; omega)).2
        exact ⟨n, z, hz⟩)
      simp only [List.length_map, List.length_range] at l1 l2
      have hat : ∀ j, j < len → ((List.range len).map f)[j]? = some (f j) := fun j hj => by simp [hj]
      refine ⟨AEv.upd φ1 h1.N ⟨b, off, cap⟩, h1.more (.cells 1 len rs), .slice h1.N 0 len len, ls, rfl, lo_add o1 r1 _ _ ?_, s1.trans (lo_stp o1 _ _), e1.trans (more_ext h1 o1 _), ?_, .inr ⟨h1.N, len, rs, by rw [l2], more_at _ _, by omega, fun j r hr' => ?_⟩⟩
      · refine ⟨c, ty, fr, hb, hsize, by show rs.length ≤ cap; omega, fun j x hx => ?_⟩
        have hj : j < len := by have := (List.getElem?_eq_some_iff.1 hx).1; omega
        obtain ⟨q1, q2, _⟩ := q j (f j) x (hat j hj) hx
        exact ⟨f j, hcj j (by omega), VR.step (lo_stp o1 _ _) _ _ q1, q2⟩
      · simp only [VR]
        exact ⟨_, cap, 1, len, _, rfl, hl, more_at _ _, Nat.le_refl _, fun _ => ⟨by simp [AEv.upd], fun _ _ => by simp [AEv.upd]⟩⟩
      · have hj : j < len := by have := (List.getElem?_eq_some_iff.1 hr').1; omega
        obtain ⟨_, _, l, q3, q4⟩ := q j (f j) r (hat j hj) hr'
        exact ⟨l, q3, q4.ext (more_ext h1 o1 _)⟩
end Go.AEv
