/-
  Of the functions that this law reaches, part 2: what they answer. No condition.
-/
import Derived.Test.YtjeemgaoonapgaaRP1
import Derived.Test.YtjeemgaoonapgaaRP0
set_option linter.unusedVariables false
set_option linter.unusedSimpArgs false
namespace Go.Proofs.Ytjeemgaoonapgaa.Ev
open Go Go.AEv
attribute [local simp] evFunc initS evOps_c evTrim_c evSkip_c evExit_c evRet_c evSeq_c evCond_c evBlock_c evDraw_c runOps_n runOps_c exec_n exec_g pure1_c act AOpd.ev T.get T.set T.put evBin evUn forceT_eq forceV_eq forceL_eq evRess evRes one keep runFP_n runFP_c app_none AV.flats AV.flat came_some List.getElem?_cons_zero List.getElem?_cons_succ beqT wrapI idxI tdivI tmodI decT decF ibT ibF inT inF evScope_c if_pos if_neg Cm_some thenW_n thenW_e thenW_r blkW_n blkW_e blkW_r goI kn putAt AV.cells fillA loadA takeA mk Eff.isAll Eff.isNone Eff.commutes Eff.spares okPair apart eqAgg fits LK.fits allEq aveq eqk mmA
theorem NG.appL {H0 h : Heap} {x : AV} {L : List Int} (t : NG H0 h x L) (zs : List Int) {m : Nat} (hz : zs.length = m) (hn : L.length + m ≤ 1000000) :
    ∃ x1 e h2, appA h h.size none 1 8 m (gs zs) x = some (x1, e) ∧ Eff.app e h = some h2 ∧ NG H0 h2 x1 (L ++ zs) := by
  by_cases c : m = 0
  · subst c
    have hz : zs = [] := List.length_eq_zero_iff.1 hz
    subst hz
    refine ⟨x, .none, h, ?_, app_noneP _, by rw [List.append_nil]; exact t⟩
    rcases t.l with ⟨rfl, _⟩ | ⟨b, rfl, _⟩
    · simp [appA]
    · simp [appA]
  · have lz : (gs zs).length = m := by simpa using hz
    rcases t.l with ⟨rfl, e⟩ | ⟨b, rfl, g, hN⟩
    · have hL : L = [] := by simpa using e
      subst hL
      refine ⟨.slice h.size 0 m m, .grow [.cells 1 m (gs zs)], h.plus [.cells 1 m (gs zs)], ?_, app_growP _ _, ?_⟩
      · simp only [appA, AEv.mk, if_neg c, if_pos (show m * 8 ≤ 1099511627776 by omega), Nat.mul_one]
      · refine ⟨t.k.trans (Kp.plus _ _), fun q hq => by cases hq; exact t.k.size, .inr ⟨h.size, by simp [hz], ?_, ?_⟩⟩
        · rw [plus_at0 _ _ _ _ rfl]; simp [hz]
        · show h.N ≤ h.size; unfold Heap.size; omega
    · have hlt := get_lt g (by simp)
      have lL : (gs L).length = L.length := by simp
      rw [lL] at g
      refine ⟨.slice b 0 (L.length + m) (L.length + m), .ext b L.length 1 (gs zs), h.upd b (.cells 1 (L.length + m) (gs L ++ gs zs)), ?_, ?_, ?_⟩
      · simp only [lL, appA, Nat.mul_one]
        rw [if_neg c, if_pos ⟨trivial, trivial, by omega⟩]
      · have := ext_gen h b L.length 1 (gs L) (gs zs) hN g lL
        rwa [lz] at this
      · refine ⟨t.k.updn _ _ hN (t.x0 b (by rw [lL]; rfl)), fun q hq => by cases hq; exact t.x0 b (by rw [lL]; rfl), .inr ⟨b, by simp [hz], ?_, by rw [upd_N]; exact hN⟩⟩
        rw [upd_same _ _ _ hN hlt]
        simp [hz]
structure OrdL (i : Nat) (L : List Int) : Prop where
  l : L.length = i
  d : L.Nodup
  m : ∀ z ∈ L, 0 ≤ z ∧ z < i
theorem OrdL.ins {i : Nat} {L : List Int} (o : OrdL i L) (k : Nat) : OrdL (i + 1) (L.take k ++ [(i : Int)] ++ L.drop k) := by
  have p : (L.take k ++ [(i : Int)] ++ L.drop k).Perm ((i : Int) :: L) := by
    have := List.perm_middle (a := (i : Int)) (l₁ := L.take k) (l₂ := L.drop k)
    rw [List.take_append_drop] at this
    simpa using this
  refine ⟨?_, ?_, fun z hz => ?_⟩
  · rw [p.length_eq, List.length_cons, o.l]
  · rw [p.nodup_iff, List.nodup_cons]
    exact ⟨fun h => by have := (o.m _ h).2; omega, o.d⟩
  · rw [p.mem_iff] at hz
    rcases List.mem_cons.1 hz with rfl | h
    · omega
    · have := o.m z h; omega
theorem OrdL.ord {n : Nat} {L : List Int} (o : OrdL n L) : Ord n (fun i => (L.getD i 0).toNat) := by
  have at' : ∀ i, (h : i < n) → L.getD i 0 = L[i]'(by rw [o.l]; exact h) := fun i h => by rw [List.getD_eq_getElem?_getD, List.getElem?_eq_getElem (by rw [o.l]; exact h)]; rfl
  have b : ∀ i, i < n → 0 ≤ L.getD i 0 ∧ L.getD i 0 < n := fun i h => by rw [at' i h]; exact o.m _ (List.getElem_mem _)
  refine ⟨fun i h => by have := b i h; omega, fun i j hi hj e => ?_⟩
  have bi := b i hi
  have bj := b j hj
  have e2 : L.getD i 0 = L.getD j 0 := by omega
  rw [at' i hi, at' j hj] at e2
  rcases Nat.lt_trichotomy i j with l | l | l
  · exact absurd e2 (List.pairwise_iff_getElem.1 o.d i j (by rw [o.l]; exact hi) (by rw [o.l]; exact hj) l)
  · exact l
  · exact absurd e2.symm (List.pairwise_iff_getElem.1 o.d j i (by rw [o.l]; exact hj) (by rw [o.l]; exact hi) l)
theorem elems_at {H : Heap} {b o m v : Nat} {cs : List AV} (g : H.get b = .cells 1 v cs) (hl : cs.length = v) (h : o + m ≤ v) : elems H 1 (.slice b o m v) = some (m, (cs.drop o).take m) := by
  simp only [elems, g, if_true, Nat.mul_one]
  rw [if_pos (by rw [List.length_take, List.length_drop]; omega)]
structure P30 (H0 h : Heap) (x : AV) (i : Nat) (L : List Int) : Prop where
  g : NG H0 h x L
  o : OrdL i L
  z : i = 0 → x = .nils
section
variable {A : List Int}
theorem c30_r (J : CallF) (k27 : K27 J) {H0 : Heap} {l : AV} (hv : LR H0 l A) {n i : Nat} (h8 : n ≤ 8) (hi : i < n) :
    Tr tbl J (.trim [[], [false], [false, true], [true, true]] c30_b0) (fun s h => ∃ x L, P30 H0 h x i L ∧ s.get [] = l ∧ s.get [false] = G n ∧ s.get [false, true] = x ∧ s.get [true, true] = G i) .normal
      (fun s h => ∃ x L, P30 H0 h x (i + 1) L ∧ s.get [] = l ∧ s.get [false] = G n ∧ s.get [false, true] = x ∧ s.get [true, true] = G ((i + 1 : Nat) : Int)) := by
  have hs := LR.sl hv
  refine Tr.w fun s1 H1 hp R kR => W.trim ?_
  obtain ⟨x, L, st, q⟩ := hp
  have num : (∃ lb m vv z, ∃ k : Nat, l = .slice lb 0 m vv ∧ i < m ∧ H1.get lb = .cells 1 vv (gs A) ∧ (gs A)[i]? = some (G z) ∧ k ≤ i ∧ ∀ h, J 27 [G z, G ((i : Int) + 1)] h = some (G k, [], false)) ∨ (∃ m, SL l m ∧ ¬ i < m) := by
    by_cases c : i < A.length
    · rcases hv.cases with ⟨_, e⟩ | ⟨_, e⟩ | ⟨b, vv, rfl, g⟩
      · rw [e] at c; simp at c
      · rw [e] at c; simp at c
      · have hmd := mdZ_bd (A.getD i 0) (show (0 : Int) < (i : Int) + 1 by omega)
        refine .inl ⟨b, A.length, vv, A.getD i 0, (mdZ (A.getD i 0) ((i : Int) + 1)).toNat, rfl, c, st.g.k.at g (by simp) id, by rw [lf_of A, gl_at _ c, lf_getD _ c], by omega, fun h => ?_⟩
        have := k27 (A.getD i 0) ((i : Int) + 1) h (by omega) (by omega)
        rwa [show ((mdZ (A.getD i 0) ((i : Int) + 1)).toNat : Int) = mdZ (A.getD i 0) ((i : Int) + 1) by omega]
    · exact .inr ⟨A.length, hs, c⟩
  have nk : ∀ k, k ≤ i → ∃ x8 e8 h2 x9 e9 h3 x5 e5 h4, appA H1 H1.size none 1 8 k (gs (L.take k)) .nils = some (x8, e8) ∧ Eff.app e8 H1 = some h2 ∧ appA (h2.plus [.cells 1 1 [G i]]) h2.size none 1 8 1 [G i] x8 = some (x9, e9) ∧ Eff.app e9 (h2.plus [.cells 1 1 [G i]]) = some h3 ∧ appA h3 h3.size none 1 8 (i - k) (gs (L.drop k)) x9 = some (x5, e5) ∧ Eff.app e5 h3 = some h4 ∧ Kp (fun _ => False) H1 h3 ∧ P30 H0 h4 x5 (i + 1) (L.take k ++ [(i : Int)] ++ L.drop k) := fun k hk => by
    have ll := st.o.l
    obtain ⟨x8, e8, h2, a1, a2, n1⟩ := (NG.nil H1).appL (L.take k) (m := k) (by rw [List.length_take]; omega) (by simp; omega)
    rw [List.nil_append] at n1
    obtain ⟨x9, e9, h3, b1, b2, n2, _⟩ := n1.app h2.size (i : Int) (by rw [List.length_take]; omega)
    obtain ⟨x5, e5, h4, c1, c2, n3⟩ := n2.appL (L.drop k) (m := i - k) (by rw [List.length_drop]; omega) (by simp; omega)
    exact ⟨x8, e8, h2, x9, e9, h3, x5, e5, h4, a1, a2, b1, b2, c1, c2, n2.k, n3.base st.g.k, st.o.ins k, fun h => by omega⟩
  have eC : ∀ (h : Heap) (z : Int), elems (h.plus [.cells 1 1 [G z]]) 1 (.slice h.size 0 1 1) = some (1, [G z]) := fun h z => by
    rw [elems_at (cs := [G z]) (v := 1) (plus_at0 _ _ _ _ rfl) rfl (by omega)]; rfl
  have e0 : ∀ h, elems h 1 .nils = some (0, []) := fun _ => rfl
  have e1 : ∀ h, elems h 1 .slice0 = some (0, []) := fun _ => rfl
  rcases num with ⟨lb, m, vv, z, k, rfl, im, g, ex, hk, kk⟩ | ⟨m, sl, im⟩
  · have ex' := getI ex
    clear hv hs
    generalize gs A = ca at *
    by_cases i0 : i = 0
    · subst i0
      obtain rfl := st.z rfl
      obtain rfl : k = 0 := by omega
      have kk : ∀ h, J 27 [G z, G 1] h = some (G ((0 : Nat) : Int), [], false) := kk
      obtain ⟨x8, e8, h2, x9, e9, h3, x5, e5, h4, a1, a2, b1, b2, c1, c2, kp, fin⟩ := nk 0 (by omega)
      have lL : L = [] := List.length_eq_zero_iff.1 st.o.l
      subst lL
      simp only [List.take_nil, List.drop_nil, List.map_nil, Nat.sub_self] at a1 c1
      have b1 : appA (h2.plus [.cells 1 1 [G 0]]) h2.size none 1 8 1 [G 0] x8 = some (x9, e9) := b1
      have b2 : Eff.app e9 (h2.plus [.cells 1 1 [G 0]]) = some h3 := b2
      refine W.assoc ?_
      refine W.seq (W.chunk ?_)
      simp (disch := first|omega|exact zE rfl|exact zO|exact zL rfl) [c30_o3, zG, q]
      refine W.seq (W.chunk ?_)
      simp (disch := first|omega|exact zE rfl|exact zO|exact zL rfl) [zG, q]
      refine W.seq (W.block ?_)
      refine W.seq (W.chunk ?_)
      simp (disch := first|omega|exact zE rfl|exact zO|exact zL rfl) [c30_o4, zG, q]
      refine W.assoc ?_
      refine W.seq (W.chunk ?_)
      simp (disch := first|omega|exact zE rfl|exact zO|exact zL rfl) [c30_o5, zG, q]
      refine W.seq (W.chunk ?_)
      simp (disch := first|omega|exact zE rfl|exact zO|exact zL rfl) [c30_o6, zG, q, g, ex, ex', kk]
      refine W.seq (W.chunk ?_)
      simp (disch := first|omega|exact zE rfl|exact zO|exact zL rfl) [c30_o7, zG, q]
      refine W.seq (W.chunk ?_)
      simp (disch := first|omega|exact zE rfl|exact zO|exact zL rfl) [c30_o8, zG, q, slSlA, bounds, e0, a1, a2]
      refine W.seq (W.chunk ?_)
      simp (disch := first|omega|exact zE rfl|exact zO|exact zL rfl) [c30_o9, zG, q, eC, b1, b2]
      refine W.chunk ?_
      simp (disch := first|omega|exact zE rfl|exact zO|exact zL rfl) [c30_o10, zG, q, slSlA, bounds, e0, c1, c2]
      refine W.chunk ?_
      simp (disch := first|omega|exact zE rfl|exact zO|exact zL rfl) [c30_o11, zG, q]
      exact kR _ _ ⟨_, _, fin, by simp [T.get, q]⟩
    · have lg : (gs L).length = i := by simpa using st.o.l
      obtain ⟨b, rfl, gx⟩ := st.g.l.sl (by intro e; rw [e] at lg; simp at lg; omega)
      rw [lg] at q gx
      obtain ⟨x8, e8, h2, x9, e9, h3, x5, e5, h4, a1, a2, b1, b2, c1, c2, kp, fin⟩ := nk k (by omega)
      have gx3 := kp.at gx (by simp) id
      have eA : elems H1 1 (.slice b 0 k i) = some (k, gs (L.take k)) := by
        rw [elems_at gx lg (by omega)]
        simp
      generalize gs (L.take k) = g1 at *
      by_cases ki : k = i
      · subst ki
        have dr : gs (L.drop k) = [] := by rw [List.drop_eq_nil_of_le (by have := st.o.l; omega)]; rfl
        rw [dr, Nat.sub_self] at c1
        refine W.assoc ?_
        refine W.seq (W.chunk ?_)
        simp (disch := first|omega|exact zE rfl|exact zO|exact zL rfl) [c30_o3, zG, q]
        refine W.seq (W.chunk ?_)
        simp (disch := first|omega|exact zE rfl|exact zO|exact zL rfl) [zG, q]
        refine W.seq (W.block ?_)
        refine W.seq (W.chunk ?_)
        simp (disch := first|omega|exact zE rfl|exact zO|exact zL rfl) [c30_o4, zG, q]
        refine W.assoc ?_
        refine W.seq (W.chunk ?_)
        simp (disch := first|omega|exact zE rfl|exact zO|exact zL rfl) [c30_o5, zG, q]
        refine W.seq (W.chunk ?_)
        simp (disch := first|omega|exact zE rfl|exact zO|exact zL rfl) [c30_o6, zG, q, g, ex, ex', kk]
        refine W.seq (W.chunk ?_)
        simp (disch := first|omega|exact zE rfl|exact zO|exact zL rfl) [c30_o7, zG, q]
        refine W.seq (W.chunk ?_)
        simp (disch := first|omega|exact zE rfl|exact zO|exact zL rfl) [c30_o8, zG, q, slSlA, bounds, eA, a1, a2]
        refine W.seq (W.chunk ?_)
        simp (disch := first|omega|exact zE rfl|exact zO|exact zL rfl) [c30_o9, zG, q, eC, b1, b2]
        refine W.chunk ?_
        simp (disch := first|omega|exact zE rfl|exact zO|exact zL rfl) [c30_o10, zG, q, slSlA, bounds, e1, c1, c2]
        refine W.chunk ?_
        simp (disch := first|omega|exact zE rfl|exact zO|exact zL rfl) [c30_o11, zG, q]
        exact kR _ _ ⟨_, _, fin, by simp [T.get, q]⟩
      · have eB : elems h3 1 (.slice b k (i - k) i) = some (i - k, gs (L.drop k)) := by
          rw [elems_at gx3 lg (by omega)]
          rw [List.take_of_length_le (by rw [List.length_drop]; omega)]; simp
        generalize gs (L.drop k) = g2 at *
        refine W.assoc ?_
        refine W.seq (W.chunk ?_)
        simp (disch := first|omega|exact zE rfl|exact zO|exact zL rfl) [c30_o3, zG, q]
        refine W.seq (W.chunk ?_)
        simp (disch := first|omega|exact zE rfl|exact zO|exact zL rfl) [zG, q]
        refine W.seq (W.block ?_)
        refine W.seq (W.chunk ?_)
        simp (disch := first|omega|exact zE rfl|exact zO|exact zL rfl) [c30_o4, zG, q]
        refine W.assoc ?_
        refine W.seq (W.chunk ?_)
        simp (disch := first|omega|exact zE rfl|exact zO|exact zL rfl) [c30_o5, zG, q]
        refine W.seq (W.chunk ?_)
        simp (disch := first|omega|exact zE rfl|exact zO|exact zL rfl) [c30_o6, zG, q, g, ex, ex', kk]
        refine W.seq (W.chunk ?_)
        simp (disch := first|omega|exact zE rfl|exact zO|exact zL rfl) [c30_o7, zG, q]
        refine W.seq (W.chunk ?_)
        simp (disch := first|omega|exact zE rfl|exact zO|exact zL rfl) [c30_o8, zG, q, slSlA, bounds, eA, a1, a2]
        refine W.seq (W.chunk ?_)
        simp (disch := first|omega|exact zE rfl|exact zO|exact zL rfl) [c30_o9, zG, q, eC, b1, b2]
        refine W.chunk ?_
        simp (disch := first|omega|exact zE rfl|exact zO|exact zL rfl) [c30_o10, zG, q, slSlA, bounds, eB, c1, c2]
        refine W.chunk ?_
        simp (disch := first|omega|exact zE rfl|exact zO|exact zL rfl) [c30_o11, zG, q]
        exact kR _ _ ⟨_, _, fin, by simp [T.get, q]⟩
  · rcases sl with ⟨rfl, rfl⟩ | ⟨rfl, rfl⟩ | ⟨lb, vv, rfl⟩
    all_goals
      clear hv hs
      by_cases i0 : i = 0
      · subst i0
        obtain rfl := st.z rfl
        obtain ⟨x8, e8, h2, x9, e9, h3, x5, e5, h4, a1, a2, b1, b2, c1, c2, kp, fin⟩ := nk 0 (by omega)
        have lL : L = [] := List.length_eq_zero_iff.1 st.o.l
        subst lL
        simp only [List.take_nil, List.drop_nil, List.map_nil, Nat.sub_self] at a1 c1
        have b1 : appA (h2.plus [.cells 1 1 [G 0]]) h2.size none 1 8 1 [G 0] x8 = some (x9, e9) := b1
        have b2 : Eff.app e9 (h2.plus [.cells 1 1 [G 0]]) = some h3 := b2
        refine W.assoc ?_
        refine W.seq (W.chunk ?_)
        simp (disch := first|omega|exact zE rfl|exact zO|exact zL rfl) [c30_o3, zG, q]
        refine W.seq (W.chunk ?_)
        simp (disch := first|omega|exact zE rfl|exact zO|exact zL rfl) [zG, q]
        refine W.seq (W.block ?_)
        refine W.seq (W.chunk ?_)
        simp (disch := first|omega|exact zE rfl|exact zO|exact zL rfl) [c30_o4, zG, q]
        refine W.assoc ?_
        refine W.seq (W.chunk ?_)
        simp (disch := first|omega|exact zE rfl|exact zO|exact zL rfl) [c30_o5, zG, q]
        refine W.seq (W.chunk ?_)
        simp (disch := first|omega|exact zE rfl|exact zO|exact zL rfl) [c30_o6, zG, q]
        refine W.seq (W.chunk ?_)
        simp (disch := first|omega|exact zE rfl|exact zO|exact zL rfl) [c30_o7, zG, q]
        refine W.seq (W.chunk ?_)
        simp (disch := first|omega|exact zE rfl|exact zO|exact zL rfl) [c30_o8, zG, q, slSlA, bounds, e0, a1, a2]
        refine W.seq (W.chunk ?_)
        simp (disch := first|omega|exact zE rfl|exact zO|exact zL rfl) [c30_o9, zG, q, eC, b1, b2]
        refine W.chunk ?_
        simp (disch := first|omega|exact zE rfl|exact zO|exact zL rfl) [c30_o10, zG, q, slSlA, bounds, e0, c1, c2]
        refine W.chunk ?_
        simp (disch := first|omega|exact zE rfl|exact zO|exact zL rfl) [c30_o11, zG, q]
        exact kR _ _ ⟨_, _, fin, by simp [T.get, q]⟩
      · have lg : (gs L).length = i := by simpa using st.o.l
        obtain ⟨b, rfl, gx⟩ := st.g.l.sl (by intro e; rw [e] at lg; simp at lg; omega)
        rw [lg] at q gx
        obtain ⟨x8, e8, h2, x9, e9, h3, x5, e5, h4, a1, a2, b1, b2, c1, c2, kp, fin⟩ := nk i (by omega)
        have gx3 := kp.at gx (by simp) id
        have eA : elems H1 1 (.slice b 0 i i) = some (i, gs (L.take i)) := by
          rw [elems_at gx lg (by omega)]
          simp
        generalize gs (L.take i) = g1 at *
        have dr : gs (L.drop i) = [] := by rw [List.drop_eq_nil_of_le (by have := st.o.l; omega)]; rfl
        rw [dr, Nat.sub_self] at c1
        refine W.assoc ?_
        refine W.seq (W.chunk ?_)
        simp (disch := first|omega|exact zE rfl|exact zO|exact zL rfl) [c30_o3, zG, q]
        refine W.seq (W.chunk ?_)
        simp (disch := first|omega|exact zE rfl|exact zO|exact zL rfl) [zG, q]
        refine W.seq (W.block ?_)
        refine W.seq (W.chunk ?_)
        simp (disch := first|omega|exact zE rfl|exact zO|exact zL rfl) [c30_o4, zG, q]
        refine W.assoc ?_
        refine W.seq (W.chunk ?_)
        simp (disch := first|omega|exact zE rfl|exact zO|exact zL rfl) [c30_o5, zG, q]
        refine W.seq (W.chunk ?_)
        simp (disch := first|omega|exact zE rfl|exact zO|exact zL rfl) [c30_o6, zG, q]
        refine W.seq (W.chunk ?_)
        simp (disch := first|omega|exact zE rfl|exact zO|exact zL rfl) [c30_o7, zG, q]
        refine W.seq (W.chunk ?_)
        simp (disch := first|omega|exact zE rfl|exact zO|exact zL rfl) [c30_o8, zG, q, slSlA, bounds, eA, a1, a2]
        refine W.seq (W.chunk ?_)
        simp (disch := first|omega|exact zE rfl|exact zO|exact zL rfl) [c30_o9, zG, q, eC, b1, b2]
        refine W.chunk ?_
        simp (disch := first|omega|exact zE rfl|exact zO|exact zL rfl) [c30_o10, zG, q, slSlA, bounds, e1, c1, c2]
        refine W.chunk ?_
        simp (disch := first|omega|exact zE rfl|exact zO|exact zL rfl) [c30_o11, zG, q]
        exact kR _ _ ⟨_, _, fin, by simp [T.get, q]⟩
theorem c30_ok (J : CallF) (k27 : K27 J) (hJ : ∀ a h, J 30 a h = none) (h : Heap) {l : AV} (hv : LR h l A) {n : Nat} (h8 : n ≤ 8) : ∃ v own, CallsTo tbl J 30 [l, G n] h (v, own, false) ∧ ∃ L, NG h (h.plus own) v L ∧ OrdL n L := by
  refine Tr.fny (cf := c30) (e := .ret) (s := T.set (T.set .leaf [] l) [false] (G n)) (by decide) rfl (hJ _ _) rfl rfl (by simp) ?_
  have hv0 : LR (frameOf h) l A := hv.lo []
  have l0 : Tr tbl J c30_l0 (fun s h' => ∃ x L, P30 (frameOf h) h' x 0 L ∧ s.get [] = l ∧ s.get [false] = G n ∧ s.get [false, true] = x ∧ s.get [true, true] = G ((0 : Nat) : Int)) (.exit 0) (fun s h' => ∃ x L, P30 (frameOf h) h' x n L ∧ s.get [false, true] = x) := by
    refine Tr.rounds (P := fun i s h' => ∃ x L, P30 (frameOf h) h' x i L ∧ s.get [] = l ∧ s.get [false] = G n ∧ s.get [false, true] = x ∧ s.get [true, true] = G i) (M := n) (fun i hi => c30_r J k27 hv0 h8 hi) ?_ (by simp) 0 (by omega)
    refine Tr.w fun s1 H1 hp R kR => W.trim ?_
    obtain ⟨x, L, st, q⟩ := hp
    clear hv hv0
    refine W.assoc ?_
    refine W.seq (W.chunk ?_)
    simp (disch := first|omega|exact zE rfl|exact zO|exact zL rfl) [c30_o3, zG, q]
    refine W.seq (W.chunk ?_)
    simp (disch := first|omega|exact zE rfl|exact zO|exact zL rfl) [zG, q]
    exact kR _ _ ⟨x, L, st, by simp [T.get, q]⟩
  have p0 : ∃ L, P30 (frameOf h) (frameOf h) .nils 0 L := ⟨[], NG.nil _, ⟨rfl, List.Pairwise.nil, fun z h => by cases h⟩, fun _ => rfl⟩
  refine Tr.w fun s1 H1 hp R kR => ?_
  obtain ⟨rfl, rfl⟩ := hp
  have q : True := trivial
  clear hv hv0
  refine W.seq (W.chunk ?_)
  simp (disch := first|omega|exact zE rfl|exact zO|exact zL rfl) [c30_o0, zG, q]
  refine W.seq (W.chunk ?_)
  simp (disch := first|omega|exact zE rfl|exact zO|exact zL rfl) [c30_o1, zG, q]
  refine W.assoc ?_
  refine W.seq (W.chunk ?_)
  simp (disch := first|omega|exact zE rfl|exact zO|exact zL rfl) [c30_o2, zG, q]
  refine W.seq (W.block ?_)
  refine W.use (l0) (by simp (disch := first|omega|exact zE rfl|exact zO|exact zL rfl) [zG, q, p0]) fun s1 H1 hp => ?_
  obtain ⟨x, L, st, q⟩ := hp
  try simp only [zW, if_true]
  refine W.seq (W.chunk ?_)
  simp (disch := first|omega|exact zE rfl|exact zO|exact zL rfl) [c30_o12, zG, q]
  refine W.ret ?_
  try simp only [zW, if_true]
  exact kR _ _ ⟨[x], by simp [T.get, c30, evRess, evRes, q], L, st.g.fr0, st.o⟩
end
def zr (n : Nat) : List AV := gs (lf (fun _ => 0) n)
def rwS (n b : Nat) : AV := .slice b 0 n n
structure ZD (H0 h : Heap) (x : AV) (n : Nat) (bs : List Nat) : Prop where
  k : Kp (fun _ => False) H0 h
  x0 : ∀ q, blk x = some q → H0.size ≤ q
  l : LV h x (bs.map (rwS n))
  d : bs.Nodup
  r : ∀ b ∈ bs, h.get b = .cells 1 n (zr n) ∧ blk x ≠ some b ∧ H0.size ≤ b
theorem ZD.nil (H0 : Heap) (n : Nat) : ZD H0 H0 .nils n [] := ⟨Kp.refl _, fun q e => (by cases e), LV.nil _, List.Pairwise.nil, fun b h => (by cases h)⟩
theorem ZD.kp {H0 h h' : Heap} {x : AV} {n : Nat} {bs : List Nat} (t : ZD H0 h x n bs) (k : Kp (fun _ => False) h h') : ZD H0 h' x n bs :=
  ⟨t.k.trans k, t.x0, t.l.kp k (fun _ _ => id), t.d, fun b hb => ⟨k.at (t.r b hb).1 (by simp) id, (t.r b hb).2⟩⟩
theorem ZD.app {H0 h : Heap} (h0 : Nat) {x : AV} {n b : Nat} {bs : List Nat} (t : ZD H0 h x n bs) (hv : h.get b = .cells 1 n (zr n)) (hb : b ∉ bs ∧ blk x ≠ some b ∧ H0.size ≤ b) (hn : bs.length ≤ 1000000) :
    ∃ x1 e h2, appA (h.plus [.cells 1 1 [.slice b 0 n n]]) h0 none 1 24 1 [.slice b 0 n n] x = some (x1, e) ∧ Eff.app e (h.plus [.cells 1 1 [.slice b 0 n n]]) = some h2 ∧ ZD H0 h2 x1 n (bs ++ [b]) ∧ AV.cells x1 = some [x1] := by
  have k1 : Kp (fun _ => False) h (h.plus [.cells 1 1 [.slice b 0 n n]]) := Kp.plus _ _
  obtain ⟨x1, e, h2, q1, q2, q3, q4, q5, q6⟩ := app_v (h.plus [.cells 1 1 [.slice b 0 n n]]) h0 24 (.slice b 0 n n) (t.l.kp k1 (fun _ _ => id)) (by simp; omega)
  have hsz : (h.plus [.cells 1 1 [.slice b 0 n n]]).size = h.size + 1 := by rw [plus_size]; rfl
  have hx1 : ∀ q, q < h.size → blk x ≠ some q → blk x1 ≠ some q := fun q hq hne hx1 => by
    rcases q5 with h' | ⟨_, h'⟩
    · rw [h'] at hx1; exact hne hx1
    · rw [h'] at hx1; cases hx1; omega
  refine ⟨x1, e, h2, q1, q2, ⟨(t.k.trans k1).late q4 t.x0, fun q hq => ?_, by rw [List.map_append]; exact q3, nodup_snoc t.d hb.1, fun c hc => ?_⟩, q6⟩
  · rcases q5 with h' | ⟨_, h'⟩
    · rw [h'] at hq; exact t.x0 q hq
    · rw [h'] at hq; cases hq; have := t.k.size; omega
  · rcases List.mem_append.1 hc with hc | hc
    · obtain ⟨r1, r2, r3⟩ := t.r c hc
      have hlt := get_lt r1 (by simp)
      exact ⟨q4.at (k1.at r1 (by simp) id) (by simp) (fun q => r2 q), hx1 c hlt r2, r3⟩
    · rw [List.mem_singleton] at hc
      subst hc
      have hlt := get_lt hv (by simp)
      exact ⟨q4.at (k1.at hv (by simp) id) (by simp) (fun q => hb.2.1 q), hx1 c hlt hb.2.1, hb.2.2⟩
theorem c28_zr (J : CallF) {H0 : Heap} {n i : Nat} (h8 : n ≤ 8) (hi : i < n) :
    Tr tbl J (.trim [[], [false], [true], [false, false, false], [true, false, false]] c28_b1) (fun s h => ∃ x bs, (ZD H0 h x n bs ∧ bs.length = i) ∧ s.get [] = .nils ∧ s.get [false] = G n ∧ s.get [true] = G 0 ∧ s.get [false, false, false] = x ∧ s.get [true, false, false] = G i) .normal
      (fun s h => ∃ x bs, (ZD H0 h x n bs ∧ bs.length = i + 1) ∧ s.get [] = .nils ∧ s.get [false] = G n ∧ s.get [true] = G 0 ∧ s.get [false, false, false] = x ∧ s.get [true, false, false] = G ((i + 1 : Nat) : Int)) := by
  refine Tr.w fun s1 H1 hp R kR => W.trim ?_
  obtain ⟨x, bs, ⟨zd, hl⟩, q⟩ := hp
  have k1 : Kp (fun _ => False) H1 (H1.plus [.cells 1 n (zr n)]) := Kp.plus _ _
  have g1 : (H1.plus [.cells 1 n (zr n)]).get H1.size = .cells 1 n (zr n) := plus_at0 _ _ _ _ rfl
  obtain ⟨x1, e, h2, q1, q2, z2, _⟩ := (zd.kp k1).app (H1.plus [.cells 1 n (zr n)]).size (b := H1.size) g1 ⟨fun hb => by have := get_lt (zd.r _ hb).1 (by simp); omega, fun e => by have := zd.l.lt e; omega, zd.k.size⟩ (by omega)
  have f1 : ((H1.plus [.cells 1 n (zr n)]).plus [.cells 1 1 [.slice H1.size 0 n n]]).get (H1.plus [.cells 1 n (zr n)]).size = .cells 1 1 [.slice H1.size 0 n n] := plus_at0 _ _ _ _ rfl
  have mk1 := fun H => mkSl_ok H 8 (G 0) n (n : Int) rfl (by omega)
  have rp : List.replicate n (AV.int .i64 0) = zr n := gl_rep n
  have l0 : Tr tbl J c28_l0 (fun s h => h = H1.plus [.cells 1 n (zr n)] ∧ s.get [] = .nils ∧ s.get [false] = G n ∧ s.get [true] = G 0 ∧ s.get [false, false, false] = x ∧ s.get [true, false, false] = G i ∧ s.get [false, true, false] = .slice H1.size 0 n n ∧ s.get [true, true, false] = G 0) (.exit 2) (fun s h => h = H1.plus [.cells 1 n (zr n)] ∧ s.get [] = .nils ∧ s.get [false] = G n ∧ s.get [true] = G 0 ∧ s.get [false, false, false] = x ∧ s.get [true, false, false] = G i ∧ s.get [false, true, false] = .slice H1.size 0 n n) := by
    clear zd z2 q1 q2 f1 g1 k1 kR q
    generalize H1.plus [.cells 1 n (zr n)] = K at *
    generalize H1.size = b at *
    refine Tr.out ?_ (by simp)
    refine Tr.w fun s1 H1 hp R kR => W.trim ?_
    obtain ⟨rfl, q⟩ := hp
    by_cases n0 : n = 0
    · omega
    · refine W.assoc ?_
      refine W.seq (W.chunk ?_)
      simp (disch := first|omega|exact zE rfl|exact zO|exact zL rfl) [c28_o6, zG, q]
      refine W.seq (W.chunk ?_)
      simp (disch := first|omega|exact zE rfl|exact zO|exact zL rfl) [zG, q]
      exact kR _ _ (by simp [T.get, q])
  have f2 : elems ((H1.plus [.cells 1 n (zr n)]).plus [.cells 1 1 [.slice H1.size 0 n n]]) 1 (.slice (H1.plus [.cells 1 n (zr n)]).size 0 1 1) = some (1, [.slice H1.size 0 n n]) := by
    rw [elems_at (cs := [.slice H1.size 0 n n]) (v := 1) f1 rfl (by omega)]; rfl
  have pz := plus_size H1 [.cells 1 n (zr n)]
  clear zd f1 k1 g1
  have fin : ∃ bs', (ZD H0 h2 x1 n bs' ∧ bs'.length = i + 1) := ⟨_, z2, by simp [hl]⟩
  clear z2
  generalize zr n = zz at *
  refine W.assoc ?_
  refine W.seq (W.chunk ?_)
  simp (disch := first|omega|exact zE rfl|exact zO|exact zL rfl) [c28_o3, zG, q]
  refine W.seq (W.chunk ?_)
  simp (disch := first|omega|exact zE rfl|exact zO|exact zL rfl) [zG, q]
  refine W.seq (W.block ?_)
  refine W.seq (W.chunk ?_)
  simp (disch := first|omega|exact zE rfl|exact zO|exact zL rfl) [-act, c28_o4, zG, q, act_move, act_mkSl, mk1, rp]
  refine W.assoc ?_
  refine W.seq (W.chunk ?_)
  simp (disch := first|omega|exact zE rfl|exact zO|exact zL rfl) [c28_o5, zG, q]
  refine W.seq (W.block ?_)
  refine W.use (l0) (by simp (disch := first|omega|exact zE rfl|exact zO|exact zL rfl) [zG, q]) fun s1 H1 hp => ?_
  obtain ⟨rfl, q⟩ := hp
  try simp only [zW, if_true]
  generalize hK : H1.plus [.cells 1 n zz] = K at *
  refine W.chunk ?_
  simp (disch := first|omega|exact zE rfl|exact zO|exact zL rfl) [c28_o12, zG, q, f2, q1, q2]
  refine W.chunk ?_
  simp (disch := first|omega|exact zE rfl|exact zO|exact zL rfl) [c28_o13, zG, q]
  exact kR _ _ (by obtain ⟨bs', f⟩ := fin; exact ⟨_, bs', f, by simp [T.get, q]⟩)
theorem c28_zero (J : CallF) (hJ : ∀ a h, J 28 a h = none) (h : Heap) {n : Nat} (h8 : n ≤ 8) (h1 : 1 ≤ n) : ∃ v own, CallsTo tbl J 28 [.nils, G n, G 0] h (v, own, false) ∧ ∃ bs, ZD h (h.plus own) v n bs ∧ bs.length = n := by
  refine Tr.fny (cf := c28) (e := .ret) (s := T.set (T.set (T.set .leaf [] .nils) [false] (G n)) [true] (G 0)) (by decide) rfl (hJ _ _) rfl rfl (by simp) ?_
  have l1 : Tr tbl J c28_l1 (fun s h' => ∃ x bs, (ZD (frameOf h) h' x n bs ∧ bs.length = 0) ∧ s.get [] = .nils ∧ s.get [false] = G n ∧ s.get [true] = G 0 ∧ s.get [false, false, false] = x ∧ s.get [true, false, false] = G ((0 : Nat) : Int)) (.exit 0) (fun s h' => ∃ x bs, (ZD (frameOf h) h' x n bs ∧ bs.length = n) ∧ s.get [false, false, false] = x) := by
    refine Tr.rounds (P := fun i s h' => ∃ x bs, (ZD (frameOf h) h' x n bs ∧ bs.length = i) ∧ s.get [] = .nils ∧ s.get [false] = G n ∧ s.get [true] = G 0 ∧ s.get [false, false, false] = x ∧ s.get [true, false, false] = G i) (M := n) (fun i hi => c28_zr J h8 hi) ?_ (by simp) 0 (by omega)
    refine Tr.w fun s1 H1 hp R kR => W.trim ?_
    obtain ⟨x, bs, zd, q⟩ := hp
    refine W.assoc ?_
    refine W.seq (W.chunk ?_)
    simp (disch := first|omega|exact zE rfl|exact zO|exact zL rfl) [c28_o3, zG, q]
    refine W.seq (W.chunk ?_)
    simp (disch := first|omega|exact zE rfl|exact zO|exact zL rfl) [zG, q]
    exact kR _ _ ⟨x, bs, zd, by simp [T.get, q]⟩
  have p0 := ZD.nil (frameOf h) n
  refine Tr.w fun s1 H1 hp R kR => ?_
  obtain ⟨rfl, rfl⟩ := hp
  have q : True := trivial
  refine W.seq (W.chunk ?_)
  simp (disch := first|omega|exact zE rfl|exact zO|exact zL rfl) [c28_o0, zG, q]
  refine W.seq (W.chunk ?_)
  simp (disch := first|omega|exact zE rfl|exact zO|exact zL rfl) [c28_o1, zG, q]
  refine W.assoc ?_
  refine W.seq (W.chunk ?_)
  simp (disch := first|omega|exact zE rfl|exact zO|exact zL rfl) [c28_o2, zG, q]
  refine W.seq (W.block ?_)
  refine W.use (l1) (by simp (disch := first|omega|exact zE rfl|exact zO|exact zL rfl) [zG, q, p0]) fun s1 H1 hp => ?_
  obtain ⟨x, bs, ⟨zd, hl⟩, q⟩ := hp
  try simp only [zW, if_true]
  refine W.seq (W.chunk ?_)
  simp (disch := first|omega|exact zE rfl|exact zO|exact zL rfl) [c28_o14, zG, q]
  refine W.ret ?_
  try simp only [zW, if_true]
  have e := Kp.own zd.k
  have hg : ∀ b, H1.get b = (h.plus H1.own).get b := fun b => by rw [e]; exact fr_get h _ b
  refine kR _ _ ⟨[x], by simp [T.get, c28, evRess, evRes, q], bs, ?_, hl⟩
  obtain ⟨b, rfl, gb, nb⟩ : ∃ b, x = .slice b 0 (bs.map (rwS n)).length (bs.map (rwS n)).length ∧ H1.get b = .cells 1 (bs.map (rwS n)).length (bs.map (rwS n)) ∧ H1.N ≤ b := by
    rcases zd.l with ⟨_, e2⟩ | r
    · rw [List.map_eq_nil_iff] at e2; subst e2; simp at hl; omega
    · exact r
  have hb : h.size ≤ b := zd.x0 b rfl
  show ZD h (h.plus (if (one [AV.slice b 0 (bs.map (rwS n)).length (bs.map (rwS n)).length]).flat = true then [] else H1.own)) _ n bs
  rw [if_neg (by simp [one, AV.flat, AV.flats])]
  exact ⟨Kp.plus _ _, zd.x0, .inr ⟨b, rfl, (hg b).symm.trans gb, by rw [plus_N]; unfold Heap.size at hb; omega⟩, zd.d, fun c hc => ⟨(hg c).symm.trans (zd.r c hc).1, (zd.r c hc).2⟩⟩
theorem addX_calls {f : Nat} {I : CallF} {Good : List AV → Heap → AV → List AObj → Prop} {args : List AV} {h : Heap} {x : AV × List AObj × Bool} (e : addX tbl I f Good f args h = some x) : CallsTo tbl I f args h x := by
  rw [show addX tbl I f Good f args h = specX tbl I f Good args h from if_pos rfl] at e
  unfold specX at e
  split at e
  · rename_i hx
    simp only [Option.some.injEq] at e; subst e
    exact (Classical.choose_spec hx).1
  · cases e
abbrev KZ (J : CallF) : Prop := ∀ (h : Heap) (n : Nat), 1 ≤ n → n ≤ 8 → ∃ v own, J 28 [.nils, G n, G 0] h = some (v, own, false) ∧ ∃ bs, ZD h (h.plus own) v n bs ∧ bs.length = n
theorem kz : KZ T3 := fun h n h1 h8 => by
  have h28 : ∀ a h, T2 28 a h = none := fun _ _ => by
    simp (disch := decide) only [T2, T1, R21, R20, R19, R18, R17, R16, R15, R14, R13, R12, R11, R10, R9, R8, R7, R6, R5, R4, R3, R2, R1, addI_ne, addX_ne, addV_ne]; rfl
  obtain ⟨v, own, c, z⟩ := c28_zero T2 h28 h h8 h1
  obtain ⟨v', own', N, e, _⟩ := k28 h .nils [] n 0 (.inl ⟨.inl rfl, rfl⟩) h8 (by decide)
  have c' := addX_calls e
  have := c.det c'
  simp only [Prod.mk.injEq, and_true] at this
  obtain ⟨rfl, rfl⟩ := this
  exact ⟨v, own, e, z⟩
structure BL (H0 A : Heap) (n qy qz : Nat) (ys zs : List Nat) : Prop where
  ly : ys.length = n
  lz : zs.length = n
  dy : ys.Nodup
  dz : zs.Nodup
  gy : A.get qy = .cells 1 n (ys.map (rwS n))
  gz : A.get qz = .cells 1 n (zs.map (rwS n))
  ny : qy ∉ ys ∧ qy ∉ zs
  nz : qz ∉ ys ∧ qz ∉ zs
  dj : ∀ b, b ∈ ys → b ∈ zs → False
  oy : ∀ b, b ∈ ys → H0.size ≤ b
  oz : ∀ b, b ∈ zs → H0.size ≤ b
  hN : A.N ≤ H0.size
  k : Kp (fun _ => False) H0 A
structure BD (A h : Heap) (n : Nat) (ys zs : List Nat) (fy fz : Nat → Nat → Int) : Prop where
  k : Kp (fun b => b ∈ ys ∨ b ∈ zs) A h
  y : ∀ (a b : Nat), ys[a]? = some b → h.get b = .cells 1 n (gs (lf (fy a) n))
  z : ∀ (a b : Nat), zs[a]? = some b → h.get b = .cells 1 n (gs (lf (fz a) n))
def sF2 (f : Nat → Nat → Int) (a c : Nat) (v : Int) : Nat → Nat → Int := fun a' c' => if a' = a ∧ c' = c then v else f a' c'
theorem sF2_row (f : Nat → Nat → Int) (a : Nat) {c n : Nat} (hc : c < n) (v : Int) : (gs (lf (f a) n)).set c (G v) = gs (lf (sF2 f a c v a) n) := by
  rw [gl_set _ _ _ _ hc]
  congr 1
  apply lf_ext
  intro x hx
  unfold sF2
  by_cases e : x = c
  · rw [if_pos e, if_pos ⟨rfl, e⟩]
  · rw [if_neg e, if_neg fun q => e q.2]
theorem sF2_ne (f : Nat → Nat → Int) {a a' : Nat} (c n : Nat) (v : Int) (h : a' ≠ a) : lf (sF2 f a c v a') n = lf (f a') n := by
  apply lf_ext
  intro x hx
  unfold sF2
  rw [if_neg fun q => h q.1]
section
variable {H0 A h : Heap} {n qy qz : Nat} {ys zs : List Nat} {fy fz : Nat → Nat → Int}
theorem BD.puty (B : BL H0 A n qy qz ys zs) (t : BD A h n ys zs fy fz) {a b c : Nat} (hb : ys[a]? = some b) (hc : c < n) (v : Int) : Eff.app (.put b n c [G v]) h = some (h.upd b (.cells 1 n (gs (lf (sF2 fy a c v a) n)))) ∧ BD A (h.upd b (.cells 1 n (gs (lf (sF2 fy a c v a) n)))) n ys zs (sF2 fy a c v) fz := by
  have hm := List.mem_of_getElem? hb
  have hN : h.N ≤ b := by rw [t.k.N]; have := B.oy b hm; have := B.hN; omega
  have g := t.y a b hb
  have hlt := get_lt g (by simp)
  have p := put_gen h b n c 1 (gs (lf (fy a) n)) [G v] hN g (by rw [gl_len]; show c + 1 ≤ n; omega)
  rw [show putAt (gs (lf (fy a) n)) c [G v] = (gs (lf (fy a) n)).set c (G v) from rfl, sF2_row fy a hc v] at p
  refine ⟨p, t.k.trans (Kp.upd h b _ hN (.inl hm)), fun a' b' hb' => ?_, fun a' b' hb' => ?_⟩
  · by_cases e : a' = a
    · subst e
      rw [hb] at hb'
      cases hb'
      exact upd_same _ _ _ hN hlt
    · have ne : b ≠ b' := fun q => e (nd_inj B.dy (q ▸ hb') hb)
      rw [upd_ne _ _ _ _ hN ne, sF2_ne fy c n v e]
      exact t.y a' b' hb'
  · have ne : b ≠ b' := fun q => B.dj b hm (q ▸ List.mem_of_getElem? hb')
    rw [upd_ne _ _ _ _ hN ne]
    exact t.z a' b' hb'
theorem BD.putz (B : BL H0 A n qy qz ys zs) (t : BD A h n ys zs fy fz) {a b c : Nat} (hb : zs[a]? = some b) (hc : c < n) (v : Int) : Eff.app (.put b n c [G v]) h = some (h.upd b (.cells 1 n (gs (lf (sF2 fz a c v a) n)))) ∧ BD A (h.upd b (.cells 1 n (gs (lf (sF2 fz a c v a) n)))) n ys zs fy (sF2 fz a c v) := by
  have hm := List.mem_of_getElem? hb
  have hN : h.N ≤ b := by rw [t.k.N]; have := B.oz b hm; have := B.hN; omega
  have g := t.z a b hb
  have hlt := get_lt g (by simp)
  have p := put_gen h b n c 1 (gs (lf (fz a) n)) [G v] hN g (by rw [gl_len]; show c + 1 ≤ n; omega)
  rw [show putAt (gs (lf (fz a) n)) c [G v] = (gs (lf (fz a) n)).set c (G v) from rfl, sF2_row fz a hc v] at p
  refine ⟨p, t.k.trans (Kp.upd h b _ hN (.inr hm)), fun a' b' hb' => ?_, fun a' b' hb' => ?_⟩
  · have ne : b ≠ b' := fun q => B.dj b' (List.mem_of_getElem? hb') (q ▸ hm)
    rw [upd_ne _ _ _ _ hN ne]
    exact t.y a' b' hb'
  · by_cases e : a' = a
    · subst e
      rw [hb] at hb'
      cases hb'
      exact upd_same _ _ _ hN hlt
    · have ne : b ≠ b' := fun q => e (nd_inj B.dz (q ▸ hb') hb)
      rw [upd_ne _ _ _ _ hN ne, sF2_ne fz c n v e]
      exact t.z a' b' hb'
def IV (N : List (List Int)) (o : Nat → Nat) (i j : Nat) (fy fz : Nat → Nat → Int) : Prop := ∀ a c, a < N.length → c < N.length → (a < i ∨ (a = i ∧ c < j)) → fy (o a) (o c) = ent N a c ∧ fz c a = ent N a c
theorem IV.step {N : List (List Int)} {o : Nat → Nat} {i j : Nat} (p : Ord N.length o) (hi : i < N.length) (hj : j < N.length) (t : IV N o i j fy fz) : IV N o i (j + 1) (sF2 fy (o i) (o j) (ent N i j)) (sF2 fz j i (ent N i j)) := fun a c ha hc h => by
  unfold sF2
  by_cases e : a = i ∧ c = j
  · obtain ⟨rfl, rfl⟩ := e
    rw [if_pos ⟨rfl, rfl⟩, if_pos ⟨rfl, rfl⟩]
    exact ⟨rfl, rfl⟩
  · rw [if_neg fun q => e ⟨p.inj a i ha hi q.1, p.inj c j hc hj q.2⟩, if_neg fun q => e ⟨q.2, q.1⟩]
    exact t a c ha hc (by omega)
theorem IV.next {N : List (List Int)} {o : Nat → Nat} {i : Nat} (t : IV N o i N.length fy fz) : IV N o (i + 1) 0 fy fz := fun a c ha hc h => t a c ha hc (by omega)
theorem r5_j (J : CallF) {N : List (List Int)} {o : Nat → Nat} {b v qo i : Nat} {cs co : List AV} (hN : isMat N = true) (p : Ord N.length o) (B : BL H0 A N.length qy qz ys zs) (mx : MX H0 N b v cs) (go : H0.get qo = .cells 1 N.length co) (eo : ∀ k, k < N.length → co[k]? = some (G (o k))) (hi : i < N.length) :
    Tr tbl J c5_l0 (fun s h => ∃ fy fz, BD A h N.length ys zs fy fz ∧ IV N o i 0 fy fz ∧ s.get [] = G N.length ∧ s.get [false, false, false] = .slice b 0 N.length v ∧ s.get [true, false, false] = .slice qo 0 N.length N.length ∧ s.get [false, true, false] = .slice qy 0 N.length N.length ∧ s.get [true, true, false] = .slice qz 0 N.length N.length ∧ s.get [false, false, true] = G i ∧ s.get [true, false, true] = G ((0 : Nat) : Int)) (.exit 2)
      (fun s h => ∃ fy fz, BD A h N.length ys zs fy fz ∧ IV N o i N.length fy fz ∧ s.get [] = G N.length ∧ s.get [false, false, false] = .slice b 0 N.length v ∧ s.get [true, false, false] = .slice qo 0 N.length N.length ∧ s.get [false, true, false] = .slice qy 0 N.length N.length ∧ s.get [true, true, false] = .slice qz 0 N.length N.length ∧ s.get [false, false, true] = G i) := by
  have h8 := isMat_n hN
  refine Tr.rounds (P := fun j s h => ∃ fy fz, BD A h N.length ys zs fy fz ∧ IV N o i j fy fz ∧ s.get [] = G N.length ∧ s.get [false, false, false] = .slice b 0 N.length v ∧ s.get [true, false, false] = .slice qo 0 N.length N.length ∧ s.get [false, true, false] = .slice qy 0 N.length N.length ∧ s.get [true, true, false] = .slice qz 0 N.length N.length ∧ s.get [false, false, true] = G i ∧ s.get [true, false, true] = G j) (M := N.length) (fun j hj => ?_) ?_ (by simp) 0 (by omega)
  · refine Tr.w fun s1 H1 hp R kR => W.trim ?_
    obtain ⟨fy, fz, bd, iv, q⟩ := hp
    have kn : Kp (fun _ => False) H0 H1 := B.k.late bd.k fun q hq => hq.elim (B.oy q) (B.oz q)
    obtain ⟨rb, rv, er, gr0⟩ := mx.r i hi
    have gb := kn.at mx.g (by simp) id
    have gr := kn.at gr0 (by simp) id
    have go := kn.at go (by simp) id
    have gy := bd.k.at B.gy (by simp) (fun q => q.elim B.ny.1 B.ny.2)
    have gz := bd.k.at B.gz (by simp) (fun q => q.elim B.nz.1 B.nz.2)
    have ee := row_at hN hi hj
    have oi := eo i hi
    have oj := eo j hj
    have li := p.lt i hi
    have lj := p.lt j hj
    obtain ⟨ya, hya⟩ : ∃ ya, ys[o i]? = some ya := ⟨_, List.getElem?_eq_getElem (by rw [B.ly]; exact li)⟩
    obtain ⟨za, hza⟩ : ∃ za, zs[j]? = some za := ⟨_, List.getElem?_eq_getElem (by rw [B.lz]; exact hj)⟩
    have ry : (ys.map (rwS N.length))[o i]? = some (.slice ya 0 N.length N.length) := by rw [List.getElem?_map, hya]; rfl
    have rz : (zs.map (rwS N.length))[j]? = some (.slice za 0 N.length N.length) := by rw [List.getElem?_map, hza]; rfl
    obtain ⟨py, bd1⟩ := bd.puty B hya lj (ent N i j)
    obtain ⟨pz, bd2⟩ := bd1.putz B hza hi (ent N i j)
    have iv2 := iv.step p hi hj
    have mya := List.mem_of_getElem? hya
    have kn1 : Kp (fun _ => False) H0 (H1.upd ya (.cells 1 N.length (gs (lf (sF2 fy (o i) (o j) (ent N i j) (o i)) N.length)))) := B.k.late bd1.k fun q hq => hq.elim (B.oy q) (B.oz q)
    have gbx := kn1.at mx.g (by simp) id
    have grx := kn1.at gr0 (by simp) id
    have er' := getI er
    have ee' := getI ee
    have oi' := getI oi
    have oj' := getI oj
    have ry' := getI ry
    have rz' := getI rz
    have lry : (ys.map (rwS N.length)).length = N.length := by simp [B.ly]
    have lrz : (zs.map (rwS N.length)).length = N.length := by simp [B.lz]
    have ex : ∃ fy' fz', BD A ((H1.upd ya (.cells 1 N.length (gs (lf (sF2 fy (o i) (o j) (ent N i j) (o i)) N.length)))).upd za (.cells 1 N.length (gs (lf (sF2 fz j i (ent N i j) j) N.length)))) N.length ys zs fy' fz' ∧ IV N o i (j + 1) fy' fz' := ⟨_, _, bd2, iv2⟩
    clear bd bd1 bd2 iv iv2 B mx kn kn1 hya hza mya gr0
    generalize gs (lf (sF2 fy (o i) (o j) (ent N i j) (o i)) N.length) = c1 at *
    generalize gs (lf (sF2 fz j i (ent N i j) j) N.length) = c2 at *
    generalize ys.map (rwS N.length) = cy at *
    generalize zs.map (rwS N.length) = cz at *
    generalize gs (N.getD i []) = cr at *
    have eb := ent_bd hN i j
    generalize ent N i j = e at *
    generalize o i = oi0 at *
    generalize o j = oj0 at *
    generalize hnn : N.length = nn at *
    refine W.assoc ?_
    refine W.seq (W.chunk ?_)
    simp (disch := first|omega|exact zE rfl|exact zO|exact zL rfl) [c5_o8, zG, q]
    refine W.seq (W.chunk ?_)
    simp (disch := first|omega|exact zE rfl|exact zO|exact zL rfl) [zG, q]
    refine W.seq (W.block ?_)
    refine W.seq (W.chunk ?_)
    simp (disch := first|omega|exact zE rfl|exact zO|exact zL rfl) [c5_o9, zG, q, go, oi, oi', gy, ry, ry', gz, rz, rz', -evDraw_c, evDraw_0]
    refine W.seq (W.chunk ?_)
    simp (disch := first|omega|exact zE rfl|exact zO|exact zL rfl) [c5_o10, zG, q, go, oj, oj', gb, er, er', gr, ee, ee', py, -evDraw_c, evDraw_0]
    refine W.chunk ?_
    simp (disch := first|omega|exact zE rfl|exact zO|exact zL rfl) [c5_o11, zG, q, gbx, er, er', grx, ee, ee', pz]
    refine W.chunk ?_
    simp (disch := first|omega|exact zE rfl|exact zO|exact zL rfl) [c5_o12, zG, q]
    exact kR _ _ (by obtain ⟨fy', fz', x1, x2⟩ := ex; exact ⟨fy', fz', x1, x2, by simp [T.get, q]⟩)
  · refine Tr.w fun s1 H1 hp R kR => W.trim ?_
    obtain ⟨fy, fz, bd, iv, q⟩ := hp
    clear B mx go
    generalize hnn : N.length = nn at *
    refine W.assoc ?_
    refine W.seq (W.chunk ?_)
    simp (disch := first|omega|exact zE rfl|exact zO|exact zL rfl) [c5_o8, zG, q]
    refine W.seq (W.chunk ?_)
    simp (disch := first|omega|exact zE rfl|exact zO|exact zL rfl) [zG, q]
    exact kR _ _ ⟨fy, fz, bd, iv, by simp [T.get, q]⟩
theorem r5_i (J : CallF) {N : List (List Int)} {o : Nat → Nat} {b v qo : Nat} {cs co : List AV} (hN : isMat N = true) (p : Ord N.length o) (B : BL H0 A N.length qy qz ys zs) (mx : MX H0 N b v cs) (go : H0.get qo = .cells 1 N.length co) (eo : ∀ k, k < N.length → co[k]? = some (G (o k))) :
    Tr tbl J c5_l1 (fun s h => ∃ fy fz, BD A h N.length ys zs fy fz ∧ IV N o 0 0 fy fz ∧ s.get [] = G N.length ∧ s.get [false, false, false] = .slice b 0 N.length v ∧ s.get [true, false, false] = .slice qo 0 N.length N.length ∧ s.get [false, true, false] = .slice qy 0 N.length N.length ∧ s.get [true, true, false] = .slice qz 0 N.length N.length ∧ s.get [false, false, true] = G ((0 : Nat) : Int)) (.exit 0)
      (fun s h => ∃ fy fz, BD A h N.length ys zs fy fz ∧ IV N o N.length 0 fy fz ∧ s.get [] = G N.length ∧ s.get [false, false, false] = .slice b 0 N.length v ∧ s.get [true, false, false] = .slice qo 0 N.length N.length ∧ s.get [false, true, false] = .slice qy 0 N.length N.length ∧ s.get [true, true, false] = .slice qz 0 N.length N.length) := by
  have h8 := isMat_n hN
  refine Tr.rounds (P := fun i s h => ∃ fy fz, BD A h N.length ys zs fy fz ∧ IV N o i 0 fy fz ∧ s.get [] = G N.length ∧ s.get [false, false, false] = .slice b 0 N.length v ∧ s.get [true, false, false] = .slice qo 0 N.length N.length ∧ s.get [false, true, false] = .slice qy 0 N.length N.length ∧ s.get [true, true, false] = .slice qz 0 N.length N.length ∧ s.get [false, false, true] = G i) (M := N.length) (fun i hi => ?_) ?_ (by simp) 0 (by omega)
  · refine Tr.w fun s1 H1 hp R kR => W.trim ?_
    obtain ⟨fy, fz, bd, iv, q⟩ := hp
    have l0 := r5_j J hN p B mx go eo hi
    have ex : ∃ fy fz, BD A H1 N.length ys zs fy fz ∧ IV N o i 0 fy fz := ⟨fy, fz, bd, iv⟩
    clear B mx go bd iv
    generalize hnn : N.length = nn at *
    refine W.assoc ?_
    refine W.seq (W.chunk ?_)
    simp (disch := first|omega|exact zE rfl|exact zO|exact zL rfl) [c5_o6, zG, q]
    refine W.seq (W.chunk ?_)
    simp (disch := first|omega|exact zE rfl|exact zO|exact zL rfl) [zG, q]
    refine W.seq (W.block ?_)
    refine W.seq (W.chunk ?_)
    simp (disch := first|omega|exact zE rfl|exact zO|exact zL rfl) [c5_o7, zG, q]
    refine W.block ?_
    refine W.use (l0) (by simp (disch := first|omega|exact zE rfl|exact zO|exact zL rfl) [zG, q, ex]) fun s1 H1 hp => ?_
    obtain ⟨fy2, fz2, bd2, iv2, q⟩ := hp
    try simp only [zW, if_true]
    refine W.chunk ?_
    simp (disch := first|omega|exact zE rfl|exact zO|exact zL rfl) [c5_o13, zG, q]
    exact kR _ _ ⟨fy2, fz2, bd2, by rw [← hnn] at iv2; exact iv2.next, by simp [T.get, q]⟩
  · refine Tr.w fun s1 H1 hp R kR => W.trim ?_
    obtain ⟨fy, fz, bd, iv, q⟩ := hp
    clear B mx go
    generalize hnn : N.length = nn at *
    refine W.assoc ?_
    refine W.seq (W.chunk ?_)
    simp (disch := first|omega|exact zE rfl|exact zO|exact zL rfl) [c5_o6, zG, q]
    refine W.seq (W.chunk ?_)
    simp (disch := first|omega|exact zE rfl|exact zO|exact zL rfl) [zG, q]
    exact kR _ _ ⟨fy, fz, bd, iv, by simp [T.get, q]⟩
end
def mt (n : Nat) (f : Nat → Nat → Int) : List (List Int) := (List.range n).map fun a => lf (f a) n
theorem mt_len (n : Nat) (f : Nat → Nat → Int) : (mt n f).length = n := by simp [mt]
theorem mt_at {n a : Nat} (f : Nat → Nat → Int) (ha : a < n) : (mt n f)[a]? = some (lf (f a) n) := by simp [mt, ha]
theorem mt_ent {n a c : Nat} (f : Nat → Nat → Int) (ha : a < n) (hc : c < n) : ent (mt n f) a c = f a c := by
  unfold ent
  rw [List.getD_eq_getElem?_getD (l := mt n f), mt_at f ha]
  exact lf_getD _ hc
theorem mt_mr {h : Heap} {qy n : Nat} {ys : List Nat} {f : Nat → Nat → Int} (g : h.get qy = .cells 1 n (ys.map (rwS n))) (ly : ys.length = n) (hr : ∀ (a b : Nat), ys[a]? = some b → h.get b = .cells 1 n (gs (lf (f a) n))) : MR h (.slice qy 0 n n) (mt n f) := by
  refine .inr ⟨qy, n, ys.map (rwS n), by rw [mt_len], g, by rw [mt_len]; simp [ly], fun i r e => ?_⟩
  rw [List.getElem?_map] at e
  cases hb : ys[i]? with
  | none => rw [hb] at e; cases e
  | some b =>
    rw [hb] at e
    simp only [Option.map_some, Option.some.injEq] at e
    subst e
    have hi : i < n := by have := (List.getElem?_eq_some_iff.1 hb).1; omega
    refine ⟨lf (f i) n, mt_at f hi, .inl ?_⟩
    have := listOf_cells (hr i b hb) rfl
    rwa [lf_len] at this
theorem mt_mat {n : Nat} {f : Nat → Nat → Int} (hn : 1 ≤ n ∧ n ≤ 8) (h : ∀ a c, a < n → c < n → 0 ≤ f a c ∧ f a c ≤ 9) : isMat (mt n f) = true := by
  refine sqM_mat (n := n) (most := 9) (fun l hl => ?_) (mt_len n f) hn (by decide)
  simp only [mt, List.mem_map, List.mem_range] at hl
  obtain ⟨a, ha, rfl⟩ := hl
  refine ⟨lf_len _ _, ?_⟩
  unfold allIn
  rw [List.all_eq_true]
  intro x hx
  simp only [lf, List.mem_map, List.mem_range] at hx
  obtain ⟨c, hc, rfl⟩ := hx
  simpa using h a c ha hc
section
variable {N : List (List Int)} {o : Nat → Nat} {fy fz : Nat → Nat → Int}
theorem iv_ren (hN : isMat N = true) (p : Ord N.length o) (iv : IV N o N.length 0 fy fz) : Ren N (mt N.length fy) o := by
  have h8 := isMat_n hN
  have e : ∀ i j, i < N.length → j < N.length → fy (o i) (o j) = ent N i j := fun i j hi hj => (iv i j hi hj (.inl hi)).1
  refine ⟨p, mt_len _ _, fun i j hi hj => ?_, hN, mt_mat h8 fun a c ha hc => ?_⟩
  · rw [mt_ent fy (p.lt i hi) (p.lt j hj), e i j hi hj]
  · obtain ⟨i, hi, rfl⟩ := p.surj ha
    obtain ⟨j, hj, rfl⟩ := p.surj hc
    rw [e i j hi hj]; exact ent_bd hN i j
theorem iv_tra (hN : isMat N = true) (iv : IV N o N.length 0 fy fz) : Tra N (mt N.length fz) := by
  have h8 := isMat_n hN
  have e : ∀ i j, i < N.length → j < N.length → fz j i = ent N i j := fun i j hi hj => (iv i j hi hj (.inl hi)).2
  refine ⟨mt_len _ _, fun i j hi hj => ?_, hN, mt_mat h8 fun a c ha hc => ?_⟩
  · rw [mt_ent fz hi hj, e j i hj hi]
  · rw [e c a hc ha]; exact ent_bd hN c a
structure CP (H : Heap) (N Y : List (List Int)) (o : Nat → Nat) (qc qd qp qq qo : Nat) (co : List AV) : Prop where
  gc : H.get qc = .cells 1 N.length (gs (clsL N))
  gd : H.get qd = .cells 1 N.length (gs (clsL Y))
  gp : H.get qp = .cells 1 N.length (gs (pdL N))
  gq : H.get qq = .cells 1 N.length (gs (pdL Y))
  go : H.get qo = .cells 1 N.length co
  eo : ∀ k, k < N.length → co[k]? = some (G (o k))
theorem r5_ce (J : CallF) {H : Heap} {n qc qd qp qq qo i j a1 b1 oi0 oj0 : Nat} {c1 c2 co : List AV} {x7 x9 : AV} (h8 : n ≤ 8) (hi : i < n) (hj : j < n) (li : oi0 < n) (lj : oj0 < n) (gc : H.get qc = .cells 1 n c1) (gd : H.get qd = .cells 1 n c2) (go : H.get qo = .cells 1 n co) (ci : c1[i]? = some (G a1)) (cj : c1[j]? = some (G a1)) (di : c2[oi0]? = some (G b1)) (dj : c2[oj0]? = some (G b1)) (oi : co[i]? = some (G oi0)) (oj : co[j]? = some (G oj0)) :
    Tr tbl J c5_o33 (fun s h => h = H ∧ s.get [] = G n ∧ s.get [false, false, false] = x7 ∧ s.get [true, false, false] = .slice qo 0 n n ∧ s.get [false, true, false] = x9 ∧ s.get [false, false, false, false] = .slice qc 0 n n ∧ s.get [false, true, false, false] = .slice qd 0 n n ∧ s.get [false, true, true, false] = .slice qp 0 n n ∧ s.get [false, false, false, true] = .slice qq 0 n n ∧ s.get [false, true, false, false, false] = G i ∧ s.get [true, true, false, false, false] = G j) .normal (fun s h => h = H ∧ s.get [] = G n ∧ s.get [false, false, false] = x7 ∧ s.get [true, false, false] = .slice qo 0 n n ∧ s.get [false, true, false] = x9 ∧ s.get [false, false, false, false] = .slice qc 0 n n ∧ s.get [false, true, false, false] = .slice qd 0 n n ∧ s.get [false, true, true, false] = .slice qp 0 n n ∧ s.get [false, false, false, true] = .slice qq 0 n n ∧ s.get [false, true, false, false, false] = G i ∧ s.get [true, true, false, false, false] = G j ∧ s.get [false, false, true, true, false, false, false, false] = .bool false) := by
  have ci' := getI ci
  have cj' := getI cj
  have di' := getI di
  have dj' := getI dj
  have oi' := getI oi
  have oj' := getI oj
  refine Tr.w fun s1 H1 hp R kR => ?_
  obtain ⟨rfl, q⟩ := hp
  refine W.chunk ?_
  simp (disch := first|omega|exact zE rfl|exact zO|exact zL rfl) [c5_o33, zG, q, gc, gd, go, ci, ci', cj, cj', di, di', dj, dj', oi, oi', oj, oj', eqk, -evDraw_c, evDraw_0]
  exact kR _ _ (by simp [T.get, q])
theorem r5_cn (J : CallF) {H : Heap} {n qc qd qp qq qo i j a1 a2 b1 b2 oi0 oj0 : Nat} {c1 c2 co : List AV} {x7 x9 : AV} (h8 : n ≤ 8) (hi : i < n) (hj : j < n) (li : oi0 < n) (lj : oj0 < n) (gc : H.get qc = .cells 1 n c1) (gd : H.get qd = .cells 1 n c2) (go : H.get qo = .cells 1 n co) (ci : c1[i]? = some (G a1)) (cj : c1[j]? = some (G a2)) (di : c2[oi0]? = some (G b1)) (dj : c2[oj0]? = some (G b2)) (oi : co[i]? = some (G oi0)) (oj : co[j]? = some (G oj0)) (e' : ¬ (a1 : Int) = a2) (e2' : ¬ (b1 : Int) = b2) :
    Tr tbl J c5_o33 (fun s h => h = H ∧ s.get [] = G n ∧ s.get [false, false, false] = x7 ∧ s.get [true, false, false] = .slice qo 0 n n ∧ s.get [false, true, false] = x9 ∧ s.get [false, false, false, false] = .slice qc 0 n n ∧ s.get [false, true, false, false] = .slice qd 0 n n ∧ s.get [false, true, true, false] = .slice qp 0 n n ∧ s.get [false, false, false, true] = .slice qq 0 n n ∧ s.get [false, true, false, false, false] = G i ∧ s.get [true, true, false, false, false] = G j) .normal (fun s h => h = H ∧ s.get [] = G n ∧ s.get [false, false, false] = x7 ∧ s.get [true, false, false] = .slice qo 0 n n ∧ s.get [false, true, false] = x9 ∧ s.get [false, false, false, false] = .slice qc 0 n n ∧ s.get [false, true, false, false] = .slice qd 0 n n ∧ s.get [false, true, true, false] = .slice qp 0 n n ∧ s.get [false, false, false, true] = .slice qq 0 n n ∧ s.get [false, true, false, false, false] = G i ∧ s.get [true, true, false, false, false] = G j ∧ s.get [false, false, true, true, false, false, false, false] = .bool false) := by
  have ci' := getI ci
  have cj' := getI cj
  have di' := getI di
  have dj' := getI dj
  have oi' := getI oi
  have oj' := getI oj
  refine Tr.w fun s1 H1 hp R kR => ?_
  obtain ⟨rfl, q⟩ := hp
  refine W.chunk ?_
  simp (disch := first|omega|exact zE rfl|exact zO|exact zL rfl) [c5_o33, zG, q, gc, gd, go, ci, ci', cj, cj', di, di', dj, dj', oi, oi', oj, oj', eqk, -evDraw_c, evDraw_0]
  exact kR _ _ (by simp [T.get, q])
theorem r5_c (J : CallF) {Y : List (List Int)} {H : Heap} {qc qd qp qq qo i : Nat} {co : List AV} {x7 x9 : AV} (r : Ren N Y o) (C : CP H N Y o qc qd qp qq qo co) (hi : i < N.length) :
    Tr tbl J c5_l2 (fun s h => h = H ∧ s.get [] = G N.length ∧ s.get [false, false, false] = x7 ∧ s.get [true, false, false] = .slice qo 0 N.length N.length ∧ s.get [false, true, false] = x9 ∧ s.get [false, false, false, false] = .slice qc 0 N.length N.length ∧ s.get [false, true, false, false] = .slice qd 0 N.length N.length ∧ s.get [false, true, true, false] = .slice qp 0 N.length N.length ∧ s.get [false, false, false, true] = .slice qq 0 N.length N.length ∧ s.get [false, true, false, false, false] = G i ∧ s.get [true, true, false, false, false] = G ((0 : Nat) : Int)) (.exit 6)
      (fun s h => h = H ∧ s.get [] = G N.length ∧ s.get [false, false, false] = x7 ∧ s.get [true, false, false] = .slice qo 0 N.length N.length ∧ s.get [false, true, false] = x9 ∧ s.get [false, false, false, false] = .slice qc 0 N.length N.length ∧ s.get [false, true, false, false] = .slice qd 0 N.length N.length ∧ s.get [false, true, true, false] = .slice qp 0 N.length N.length ∧ s.get [false, false, false, true] = .slice qq 0 N.length N.length ∧ s.get [false, true, false, false, false] = G i) := by
  have h8 := isMat_n r.m
  obtain ⟨gc, gd, _, _, go, eo⟩ := C
  refine Tr.rounds (P := fun j => (fun s h => h = H ∧ s.get [] = G N.length ∧ s.get [false, false, false] = x7 ∧ s.get [true, false, false] = .slice qo 0 N.length N.length ∧ s.get [false, true, false] = x9 ∧ s.get [false, false, false, false] = .slice qc 0 N.length N.length ∧ s.get [false, true, false, false] = .slice qd 0 N.length N.length ∧ s.get [false, true, true, false] = .slice qp 0 N.length N.length ∧ s.get [false, false, false, true] = .slice qq 0 N.length N.length ∧ s.get [false, true, false, false, false] = G i ∧ s.get [true, true, false, false, false] = G j)) (M := N.length) (fun j hj => ?_) ?_ (by simp) 0 (by omega)
  · refine Tr.w fun s1 H1 hp R kR => W.trim ?_
    obtain ⟨rfl, q⟩ := hp
    have ci : (gs (clsL N))[i]? = some (G (clN N i)) := gl_at _ hi
    have cj : (gs (clsL N))[j]? = some (G (clN N j)) := gl_at _ hj
    have li := r.p.lt i hi
    have lj := r.p.lt j hj
    have di : (gs (clsL Y))[o i]? = some (G (clN Y (o i))) := gl_at _ (by rw [r.l]; exact li)
    have dj : (gs (clsL Y))[o j]? = some (G (clN Y (o j))) := gl_at _ (by rw [r.l]; exact lj)
    have oi := eo i hi
    have oj := eo j hj
    have ci' := getI ci
    have cj' := getI cj
    have di' := getI di
    have dj' := getI dj
    have oi' := getI oi
    have oj' := getI oj
    have cl := r.cl hi hj
    clear r eo
    generalize clN N i = a1 at *
    generalize clN N j = a2 at *
    generalize clN Y (o i) = b1 at *
    generalize clN Y (o j) = b2 at *
    generalize gs (clsL N) = c1 at *
    generalize gs (clsL Y) = c2 at *
    generalize o i = oi0 at *
    generalize o j = oj0 at *
    generalize N.length = n at *
    by_cases e : a1 = a2
    · have e2 := cl.2 e
      subst e; subst e2
      have t0 := r5_ce (J := J) (x7 := x7) (x9 := x9) (qp := qp) (qq := qq) h8.2 hi hj li lj gc gd go ci cj di dj oi oj
      clear gc gd go ci cj di dj oi oj ci' cj' di' dj' oi' oj'
      refine W.assoc ?_
      refine W.seq (W.chunk ?_)
      simp (disch := first|omega|exact zE rfl|exact zO|exact zL rfl) [c5_o32, zG, q]
      refine W.seq (W.chunk ?_)
      simp (disch := first|omega|exact zE rfl|exact zO|exact zL rfl) [zG, q]
      refine W.seq (W.block ?_)
      refine W.seq (W.use (t0) (by simp (disch := first|omega|exact zE rfl|exact zO|exact zL rfl) [zG, q]) fun s1 H1 hp => ?_)
      obtain ⟨rfl, q⟩ := hp
      try simp only [zW, if_true]
      refine W.chunk ?_
      simp (disch := first|omega|exact zE rfl|exact zO|exact zL rfl) [c5_o34, zG, q]
      refine W.chunk ?_
      simp (disch := first|omega|exact zE rfl|exact zO|exact zL rfl) [c5_o35, zG, q]
      exact kR _ _ (by simp [T.get, q])
    · have e2 : ¬ b1 = b2 := fun x => e (cl.1 x)
      have t0 := r5_cn (J := J) (x7 := x7) (x9 := x9) (qp := qp) (qq := qq) h8.2 hi hj li lj gc gd go ci cj di dj oi oj (by omega) (by omega)
      clear gc gd go ci cj di dj oi oj ci' cj' di' dj' oi' oj'
      refine W.assoc ?_
      refine W.seq (W.chunk ?_)
      simp (disch := first|omega|exact zE rfl|exact zO|exact zL rfl) [c5_o32, zG, q]
      refine W.seq (W.chunk ?_)
      simp (disch := first|omega|exact zE rfl|exact zO|exact zL rfl) [zG, q]
      refine W.seq (W.block ?_)
      refine W.seq (W.use (t0) (by simp (disch := first|omega|exact zE rfl|exact zO|exact zL rfl) [zG, q]) fun s1 H1 hp => ?_)
      obtain ⟨rfl, q⟩ := hp
      try simp only [zW, if_true]
      refine W.chunk ?_
      simp (disch := first|omega|exact zE rfl|exact zO|exact zL rfl) [c5_o34, zG, q]
      refine W.chunk ?_
      simp (disch := first|omega|exact zE rfl|exact zO|exact zL rfl) [c5_o35, zG, q]
      exact kR _ _ (by simp [T.get, q])
  · refine Tr.w fun s1 H1 hp R kR => W.trim ?_
    obtain ⟨rfl, q⟩ := hp
    generalize N.length = n at *
    refine W.assoc ?_
    refine W.seq (W.chunk ?_)
    simp (disch := first|omega|exact zE rfl|exact zO|exact zL rfl) [c5_o32, zG, q]
    refine W.seq (W.chunk ?_)
    simp (disch := first|omega|exact zE rfl|exact zO|exact zL rfl) [zG, q]
    exact kR _ _ (by simp [T.get, q])
theorem r5_d (J : CallF) {Y : List (List Int)} {H : Heap} {qc qd qp qq qo : Nat} {co : List AV} {x7 x9 : AV} (r : Ren N Y o) (C : CP H N Y o qc qd qp qq qo co) :
    Tr tbl J c5_l3 (fun s h => h = H ∧ s.get [] = G N.length ∧ s.get [false, false, false] = x7 ∧ s.get [true, false, false] = .slice qo 0 N.length N.length ∧ s.get [false, true, false] = x9 ∧ s.get [false, false, false, false] = .slice qc 0 N.length N.length ∧ s.get [false, true, false, false] = .slice qd 0 N.length N.length ∧ s.get [false, true, true, false] = .slice qp 0 N.length N.length ∧ s.get [false, false, false, true] = .slice qq 0 N.length N.length ∧ s.get [false, true, false, false, false] = G ((0 : Nat) : Int)) (.exit 4) (fun s h => h = H ∧ s.get [false, false, false] = x7 ∧ s.get [false, true, false] = x9) := by
  have h8 := isMat_n r.m
  refine Tr.rounds (P := fun i => (fun s h => h = H ∧ s.get [] = G N.length ∧ s.get [false, false, false] = x7 ∧ s.get [true, false, false] = .slice qo 0 N.length N.length ∧ s.get [false, true, false] = x9 ∧ s.get [false, false, false, false] = .slice qc 0 N.length N.length ∧ s.get [false, true, false, false] = .slice qd 0 N.length N.length ∧ s.get [false, true, true, false] = .slice qp 0 N.length N.length ∧ s.get [false, false, false, true] = .slice qq 0 N.length N.length ∧ s.get [false, true, false, false, false] = G i)) (M := N.length) (fun i hi => ?_) ?_ (by simp) 0 (by omega)
  · refine Tr.w fun s1 H1 hp R kR => W.trim ?_
    obtain ⟨rfl, q⟩ := hp
    have l2 := r5_c (x7 := x7) (x9 := x9) J r C hi
    obtain ⟨_, _, gp, gq, go, eo⟩ := C
    have pi : (gs (pdL N))[i]? = some (G (perN N i)) := gl_at _ hi
    have li := r.p.lt i hi
    have qi : (gs (pdL Y))[o i]? = some (G (perN Y (o i))) := gl_at _ (by rw [r.l]; exact li)
    rw [r.per hi] at qi
    have oi := eo i hi
    have pi' := getI pi
    have qi' := getI qi
    have oi' := getI oi
    clear r eo
    generalize perN N i = a1 at *
    generalize gs (pdL N) = c1 at *
    generalize gs (pdL Y) = c2 at *
    generalize o i = oi0 at *
    generalize N.length = n at *
    refine W.assoc ?_
    refine W.seq (W.chunk ?_)
    simp (disch := first|omega|exact zE rfl|exact zO|exact zL rfl) [c5_o28, zG, q]
    refine W.seq (W.chunk ?_)
    simp (disch := first|omega|exact zE rfl|exact zO|exact zL rfl) [zG, q]
    refine W.seq (W.block ?_)
    refine W.assoc ?_
    refine W.seq (W.chunk ?_)
    simp (disch := first|omega|exact zE rfl|exact zO|exact zL rfl) [c5_o29, zG, q, gp, gq, go, pi, pi', qi, qi', oi, oi', -evDraw_c, evDraw_0]
    refine W.seq (W.chunk ?_)
    simp (disch := first|omega|exact zE rfl|exact zO|exact zL rfl) [c5_o30, zG, q]
    refine W.seq (W.chunk ?_)
    simp (disch := first|omega|exact zE rfl|exact zO|exact zL rfl) [c5_o31, zG, q]
    refine W.block ?_
    refine W.use (l2) (by simp (disch := first|omega|exact zE rfl|exact zO|exact zL rfl) [zG, q]) fun s1 H1 hp => ?_
    obtain ⟨rfl, q⟩ := hp
    try simp only [zW, if_true]
    refine W.chunk ?_
    simp (disch := first|omega|exact zE rfl|exact zO|exact zL rfl) [c5_o36, zG, q]
    exact kR _ _ (by simp [T.get, q])
  · refine Tr.w fun s1 H1 hp R kR => W.trim ?_
    obtain ⟨rfl, q⟩ := hp
    clear C
    generalize N.length = n at *
    refine W.assoc ?_
    refine W.seq (W.chunk ?_)
    simp (disch := first|omega|exact zE rfl|exact zO|exact zL rfl) [c5_o28, zG, q]
    refine W.seq (W.chunk ?_)
    simp (disch := first|omega|exact zE rfl|exact zO|exact zL rfl) [zG, q]
    exact kR _ _ (by simp [T.get, q])
end
structure A30 where
  A : List Int
  l : AV
  n : Nat
def Pre30 (a : A30) (args : List AV) (h : Heap) : Prop := (LR h a.l a.A ∧ a.n ≤ 8) ∧ args = [a.l, G a.n]
def Post30 (a : A30) (h : Heap) (v : AV) (own : List AObj) : Prop := ∃ L, NG h (h.plus own) v L ∧ OrdL a.n L
noncomputable def U1 : CallF := addK tbl T31 30 Pre30 Post30
theorem u1 : Sound Go.Proofs.Try.prog U1 := Sound.addK follows ok t31 (by decide) _ _
abbrev K30 (J : CallF) : Prop := ∀ (h : Heap) (a : A30), LR h a.l a.A → a.n ≤ 8 → ∃ v own, J 30 [a.l, G a.n] h = some (v, own, false) ∧ ∃ L, NG h (h.plus own) v L ∧ OrdL a.n L
theorem k27_31 : K27 T31 := fun x n h a b => by
  simp (disch := decide) only [T31, T30, T29, T28, T27, T26, T25, T24, T23, T22, T21, T20, T19, T18, T17, T16, T15, T14, T13, T12, T11, T10, T9, T8, T7, T6, T5, T4, T3, addX_ne, addK_ne]
  exact k27_2 x n h a b
theorem k30 : K30 U1 := fun h a hv h8 => addK_some (Pre := Pre30) (Post := Post30) (fun a args h hp => by
  obtain ⟨⟨hv, h8⟩, rfl⟩ := hp
  exact c30_ok T31 k27_31 (fun _ _ => by simp (disch := decide) only [T31, T30, T29, T28, T27, T26, T25, T24, T23, T22, T21, T20, T19, T18, T17, T16, T15, T14, T13, T12, T11, T10, T9, T8, T7, T6, T5, T4, T3, T2, T1, R21, R20, R19, R18, R17, R16, R15, R14, R13, R12, R11, R10, R9, R8, R7, R6, R5, R4, R3, R2, R1, addI_ne, addX_ne, addV_ne, addK_ne]; rfl) h hv h8) a _ h ⟨⟨hv, h8⟩, rfl⟩
theorem bl_of {H0 Hy Hz : Heap} {y z : AV} {n : Nat} {ys zs : List Nat} (h1 : 1 ≤ n) (zy : ZD H0 Hy y n ys) (ly : ys.length = n) (zz : ZD Hy Hz z n zs) (lz : zs.length = n) (hN : Hz.N ≤ H0.size) : ∃ qy qz, y = .slice qy 0 n n ∧ z = .slice qz 0 n n ∧ BL H0 Hz n qy qz ys zs ∧ BD Hz Hz n ys zs (fun _ _ => 0) (fun _ _ => 0) := by
  have my : (ys.map (rwS n)).length = n := by simp [ly]
  have mz : (zs.map (rwS n)).length = n := by simp [lz]
  obtain ⟨qy, rfl, gy⟩ := zy.l.sl (by intro e; rw [e] at my; simp at my; omega)
  obtain ⟨qz, rfl, gz⟩ := zz.l.sl (by intro e; rw [e] at mz; simp at mz; omega)
  rw [my] at gy zy
  rw [mz] at gz zz
  have xz := zz.x0 qz rfl
  have ltq := get_lt gy (by simp)
  have lty : ∀ b, b ∈ ys → b < Hy.size := fun b hb => get_lt (zy.r b hb).1 (by simp)
  have gez : ∀ b, b ∈ zs → Hy.size ≤ b := fun b hb => (zz.r b hb).2.2
  refine ⟨qy, qz, by rw [my], by rw [mz], ⟨ly, lz, zy.d, zz.d, zz.k.at gy (by simp) id, gz, ⟨fun h => (zy.r qy h).2.1 rfl, fun h => by have := gez qy h; omega⟩, ⟨fun h => by have := lty qz h; omega, fun h => (zz.r qz h).2.1 rfl⟩, fun b h1 h2 => by have := lty b h1; have := gez b h2; omega, fun b hb => (zy.r b hb).2.2, fun b hb => by have := gez b hb; have := zy.k.size; omega, hN, zy.k.trans zz.k⟩, ⟨Kp.refl _, fun a b e => zz.k.at (zy.r b (List.mem_of_getElem? e)).1 (by simp [zr]) id, fun a b e => (zz.r b (List.mem_of_getElem? e)).1⟩⟩
structure KnZr (J : CallF) : Prop where
  k23 : ∀ h, J 23 [] h = some (.bool true, [], false)
  k24 : K24 J
  k27 : K27 J
  k28 : K28 J
  kz : KZ J
  k30 : K30 J
  k31 : K31 J
  k32 : K32 J
  k33 : K33 J
  k34 : K34 J
set_option maxHeartbeats 4000000 in
theorem renamed_law (J : CallF) (K : KnZr J) (hJ : ∀ a h, J 5 a h = none) (h : Heap) (a : Int) {m v : AV} {M : List (List Int)} {A : List Int} (hm : MR h m M) (hv : LR h v A) : CallsTo tbl J 5 [G a, m, v] h (.bool true, [], false) := by
  refine Tr.fnv (cf := c5) (e := .ret) (s := T.set (T.set (T.set .leaf [] (G a)) [false] m) [true] v) (by decide) rfl (hJ _ _) rfl rfl rfl (by simp) ?_
  refine Tr.w fun s1 H1 hp R kR => ?_
  obtain ⟨rfl, rfl⟩ := hp
  have q : True := trivial
  have fin : ∀ s h', s.get [true, true] = .bool true → R .ret s h' := fun s h' a => kR _ _ ⟨[.bool true], by simp [c5, evRess, evRes, a], rfl⟩
  clear kR
  have b1 := mdZ_bd a (show (0 : Int) < 8 by decide)
  have k1 := fun h => K.k27 a 8 h (by decide) (by decide)
  obtain ⟨n, hn⟩ : ∃ n : Nat, mdZ a 8 = (n : Int) := ⟨(mdZ a 8).toNat, by omega⟩
  rw [hn] at b1 k1
  have ns : ((n + 1 : Nat) : Int) = 1 + (n : Int) := by omega
  obtain ⟨x, own, N, k28, tg, hlN, hq⟩ := K.k28 (frameOf h) m M (n + 1) 9 (hm.lo []) (by omega) (by decide)
  have hN : isMat N = true := sqM_mat hq hlN (by omega) (by decide)
  have h8 := isMat_n hN
  have hx := tg.mr
  have kpa : Kp (fun _ => False) (frameOf h) ((frameOf h).plus own) := Kp.plus _ _
  have hva : LR ((frameOf h).plus own) v A := LR.kp kpa (hv.lo [])
  have Nf : ((frameOf h).plus own).N ≤ ((frameOf h).plus own).size := by unfold Heap.size; omega
  clear tg hq
  rw [ns] at k28
  have hnl : (N.length : Int) = 1 + (n : Int) := by omega
  generalize hHa : (frameOf h).plus own = Ha at *
  have k23 := K.k23
  obtain ⟨wo, ono, k30, L, ngo, ol⟩ := K.k30 Ha ⟨A, v, N.length⟩ hva h8.2
  simp only [hnl] at k30
  have p := ol.ord
  have lo : (gs L).length = N.length := by rw [List.length_map]; exact ol.l
  obtain ⟨qo, rfl, go⟩ := ngo.l.sl (by intro e; rw [e] at lo; simp at lo; omega)
  rw [lo] at k30 go
  have eo : ∀ k, k < N.length → (gs L)[k]? = some (G ((fun i => (L.getD i 0).toNat) k)) := fun k hk => by
    have e := List.getElem?_eq_getElem (show k < L.length by rw [ol.l]; exact hk)
    have := (ol.m _ (List.mem_of_getElem? e)).1
    rw [List.getElem?_map, e]
    simp only [Option.map_some, List.getD_eq_getElem?_getD, e, Option.getD_some]
    rw [Int.toNat_of_nonneg this]
  generalize ho : (fun i => (L.getD i 0).toNat) = o at *
  have kpn : Kp (fun _ => False) Ha (Ha.plus ono) := Kp.plus _ _
  have hxn := hx.kp kpn
  generalize hHn : Ha.plus ono = Hn at *
  obtain ⟨wy, oy, ky, ys, zy, ly⟩ := K.kz Hn N.length h8.1 h8.2
  rw [hnl] at ky
  generalize hHy : Hn.plus oy = Hy at *
  obtain ⟨wz, oz, kzz, zs, zz, lz⟩ := K.kz Hy N.length h8.1 h8.2
  rw [hnl] at kzz
  generalize hHz : Hy.plus oz = Hz at *
  obtain ⟨qy, qz, rfl, rfl, B, bd0⟩ := bl_of h8.1 zy ly zz lz (by rw [zz.k.N, zy.k.N, kpn.N]; have := kpn.size; omega)
  obtain ⟨b, v1, cs, rfl, mx⟩ := hxn.mx hN
  have l1 := r5_i J hN p B mx go eo
  have ex : ∃ fy fz, BD Hz Hz N.length ys zs fy fz ∧ IV N o 0 0 fy fz := ⟨_, _, bd0, fun a c _ _ h => by omega⟩
  have k28 : J 28 [m, G (1 + (n : Int)), G 9] (frameOf h) = some (.slice b 0 N.length v1, own, false) := k28
  clear zy zz mx hva hv hm hx kpa bd0 ngo kpn
  obtain ⟨g, e, hge⟩ : ∃ g e : Int, (if exB N = true then AV.tup [G (exN N), G 0] else .tup [G 0, G 6]) = .tup [G g, G e] := by
    cases exB N
    · exact ⟨0, 6, rfl⟩
    · exact ⟨_, 0, rfl⟩
  refine W.seq (W.chunk ?_)
  simp (disch := first|omega|exact zE rfl|exact zO|exact zL rfl) [c5_o0, zG, q]
  refine W.seq (W.chunk ?_)
  simp (disch := first|omega|exact zE rfl|exact zO|exact zL rfl) [c5_o1, zG, q, k1]
  refine W.seq (W.chunk ?_)
  simp (disch := first|omega|exact zE rfl|exact zO|exact zL rfl) [c5_o2, zG, q, k28, app_if, app_if', hHa]
  refine W.seq (W.chunk ?_)
  simp (disch := first|omega|exact zE rfl|exact zO|exact zL rfl) [c5_o3, zG, q, k30, app_if, app_if', hHn]
  refine W.seq (W.chunk ?_)
  simp (disch := first|omega|exact zE rfl|exact zO|exact zL rfl) [c5_o4, zG, q, ky, kzz, app_if, app_if', hHy, hHz]
  refine W.assoc ?_
  refine W.seq (W.chunk ?_)
  simp (disch := first|omega|exact zE rfl|exact zO|exact zL rfl) [c5_o5, zG, q]
  refine W.seq (W.block ?_)
  refine W.use (l1) (by simp (disch := first|omega|exact zE rfl|exact zO|exact zL rfl) [zG, q, ex, hnl]) fun s1 H1 hp => ?_
  obtain ⟨fy, fz, bd, iv, q⟩ := hp
  try simp only [zW, if_true]
  have rn := iv_ren hN p iv
  have tr := iv_tra hN iv
  have kn : Kp (fun _ => False) Hn H1 := B.k.late bd.k fun q hq => hq.elim (B.oy q) (B.oz q)
  have hx0 := hxn.kp kn
  have hy0 := mt_mr (bd.k.at B.gy (by simp) (fun q => q.elim B.ny.1 B.ny.2)) B.ly bd.y
  have hz0 := mt_mr (bd.k.at B.gz (by simp) (fun q => q.elim B.nz.1 B.nz.2)) B.lz bd.z
  have go0 := kn.at go (by simp) id
  clear bd iv B kn
  obtain ⟨u1, un1, j1, _, r1⟩ := K.k31 H1 ⟨N, _⟩ hx0
  obtain ⟨w1, rfl, n1⟩ := r1 hN
  simp only at j1 n1
  have kk1 : Kp (fun _ => False) H1 (H1.plus un1) := Kp.plus _ _
  generalize hB1 : H1.plus un1 = B1 at *
  have hx1 := hx0.kp kk1
  have hy1 := hy0.kp kk1
  have hz1 := hz0.kp kk1
  obtain ⟨u2, un2, j2, _, r2⟩ := K.k31 B1 ⟨(mt N.length fy), _⟩ hy1
  obtain ⟨w2, rfl, n2⟩ := r2 rn.my
  simp only at j2 n2
  have kk2 : Kp (fun _ => False) B1 (B1.plus un2) := Kp.plus _ _
  generalize hB2 : B1.plus un2 = B2 at *
  have hx2 := hx1.kp kk2
  have hy2 := hy1.kp kk2
  have hz2 := hz1.kp kk2
  obtain ⟨u3, un3, j3, _, r3⟩ := K.k31 B2 ⟨(mt N.length fz), _⟩ hz2
  obtain ⟨w3, rfl, n3⟩ := r3 tr.mz
  simp only at j3 n3
  have kk3 : Kp (fun _ => False) B2 (B2.plus un3) := Kp.plus _ _
  generalize hB3 : B2.plus un3 = B3 at *
  have hx3 := hx2.kp kk3
  have hy3 := hy2.kp kk3
  have hz3 := hz2.kp kk3
  obtain ⟨u4, un4, j4, _, r4⟩ := K.k32 B3 ⟨N, _⟩ hx3
  obtain ⟨w4, rfl, n4⟩ := r4 hN
  simp only at j4 n4
  have kk4 : Kp (fun _ => False) B3 (B3.plus un4) := Kp.plus _ _
  generalize hB4 : B3.plus un4 = B4 at *
  have hx4 := hx3.kp kk4
  have hy4 := hy3.kp kk4
  have hz4 := hz3.kp kk4
  obtain ⟨u5, un5, j5, _, r5⟩ := K.k32 B4 ⟨(mt N.length fy), _⟩ hy4
  obtain ⟨w5, rfl, n5⟩ := r5 rn.my
  simp only at j5 n5
  have kk5 : Kp (fun _ => False) B4 (B4.plus un5) := Kp.plus _ _
  generalize hB5 : B4.plus un5 = B5 at *
  have hx5 := hx4.kp kk5
  have hy5 := hy4.kp kk5
  have hz5 := hz4.kp kk5
  obtain ⟨u6, un6, j6, _, r6⟩ := K.k32 B5 ⟨(mt N.length fz), _⟩ hz5
  obtain ⟨w6, rfl, n6⟩ := r6 tr.mz
  simp only at j6 n6
  have kk6 : Kp (fun _ => False) B5 (B5.plus un6) := Kp.plus _ _
  generalize hB6 : B5.plus un6 = B6 at *
  have hx6 := hx5.kp kk6
  have hy6 := hy5.kp kk6
  have hz6 := hz5.kp kk6
  obtain ⟨u7, un7, j7, _, r7⟩ := K.k33 B6 ⟨N, _⟩ hx6
  obtain ⟨w7, rfl, n7⟩ := r7 hN
  simp only at j7 n7
  have kk7 : Kp (fun _ => False) B6 (B6.plus un7) := Kp.plus _ _
  generalize hB7 : B6.plus un7 = B7 at *
  have hx7 := hx6.kp kk7
  have hy7 := hy6.kp kk7
  have hz7 := hz6.kp kk7
  obtain ⟨u8, un8, j8, _, r8⟩ := K.k33 B7 ⟨(mt N.length fy), _⟩ hy7
  obtain ⟨w8, rfl, n8⟩ := r8 rn.my
  simp only at j8 n8
  have kk8 : Kp (fun _ => False) B7 (B7.plus un8) := Kp.plus _ _
  generalize hB8 : B7.plus un8 = B8 at *
  have hx8 := hx7.kp kk8
  have hy8 := hy7.kp kk8
  have hz8 := hz7.kp kk8
  obtain ⟨u9, un9, j9, _, r9⟩ := K.k33 B8 ⟨(mt N.length fz), _⟩ hz8
  obtain ⟨w9, rfl, n9⟩ := r9 tr.mz
  simp only at j9 n9
  have kk9 : Kp (fun _ => False) B8 (B8.plus un9) := Kp.plus _ _
  generalize hB9 : B8.plus un9 = B9 at *
  have hx9 := hx8.kp kk9
  have hy9 := hy8.kp kk9
  have hz9 := hz8.kp kk9
  rw [tr.cls] at n3
  rw [tr.pds] at n6
  rw [rn.py] at n8
  rw [tr.py] at n9
  have e13 := K.k24 B9 w1 w3 _ _ (n1.kp (((((((kk2.trans kk3).trans kk4).trans kk5).trans kk6).trans kk7).trans kk8).trans kk9)).list (n3.kp (((((kk4.trans kk5).trans kk6).trans kk7).trans kk8).trans kk9)).list (by unfold clsL; rw [lf_len]; omega)
  rw [decide_eq_true rfl] at e13
  have e46 := K.k24 B9 w4 w6 _ _ (n4.kp ((((kk5.trans kk6).trans kk7).trans kk8).trans kk9)).list (n6.kp ((kk7.trans kk8).trans kk9)).list (by unfold pdL; rw [lf_len]; omega)
  rw [decide_eq_true rfl] at e46
  have e78 := K.k24 B9 w7 w8 _ _ (n7.kp (kk8.trans kk9)).list (n8.kp kk9).list (by unfold pyL; rw [lf_len]; omega)
  rw [decide_eq_true rfl] at e78
  have e79 := K.k24 B9 w7 w9 _ _ (n7.kp (kk8.trans kk9)).list n9.list (by unfold pyL; rw [lf_len]; omega)
  rw [decide_eq_true rfl] at e79
  have l1 : (gs (clsL N)).length = N.length := gl_len _ _
  obtain ⟨qc, rfl, g21⟩ := n1.l.sl (by intro e; rw [e] at l1; simp at l1; omega)
  rw [l1] at j1 g21
  have l2 : (gs (clsL (mt N.length fy))).length = N.length := (gl_len _ _).trans (mt_len _ _)
  obtain ⟨qd, rfl, g22⟩ := n2.l.sl (by intro e; rw [e] at l2; simp at l2; omega)
  rw [l2] at j2 g22
  have l4 : (gs (pdL N)).length = N.length := gl_len _ _
  obtain ⟨qp, rfl, g24⟩ := n4.l.sl (by intro e; rw [e] at l4; simp at l4; omega)
  rw [l4] at j4 g24
  have l5 : (gs (pdL (mt N.length fy))).length = N.length := (gl_len _ _).trans (mt_len _ _)
  obtain ⟨qq, rfl, g25⟩ := n5.l.sl (by intro e; rw [e] at l5; simp at l5; omega)
  rw [l5] at j5 g25
  rw [l1] at e13
  rw [l4] at e46
  have C : CP B9 N (mt N.length fy) o qc qd qp qq qo (gs L) := ⟨(((((((kk2.trans kk3).trans kk4).trans kk5).trans kk6).trans kk7).trans kk8).trans kk9).at g21 (by simp) id, ((((((kk3.trans kk4).trans kk5).trans kk6).trans kk7).trans kk8).trans kk9).at g22 (by simp) id, ((((kk5.trans kk6).trans kk7).trans kk8).trans kk9).at g24 (by simp) id, (((kk6.trans kk7).trans kk8).trans kk9).at g25 (by simp) id, (kk1.trans (((((((kk2.trans kk3).trans kk4).trans kk5).trans kk6).trans kk7).trans kk8).trans kk9)).at go0 (by simp) id, eo⟩
  have l3 := r5_d (J := J) (x7 := .slice b 0 N.length v1) (x9 := .slice qy 0 N.length N.length) rn C
  have k34x := K.k34 B9 ⟨N, _⟩ hx9
  have k34y := K.k34 B9 ⟨mt N.length fy, _⟩ hy9
  simp only at k34x k34y
  rw [if_pos hN] at k34x
  rw [if_pos rn.my, rn.ex.1, rn.ex.2] at k34y
  rw [hge] at k34x k34y
  clear C g21 g22 g24 g25 go0 rn tr n1 kk1 r1 n2 kk2 r2 n3 kk3 r3 n4 kk4 r4 n5 kk5 r5 n6 kk6 r6 n7 kk7 r7 n8 kk8 r8 n9 kk9 r9 hx0 hx1 hx2 hx3 hx4 hx5 hx6 hx7 hx8 hx9 hy0 hy1 hy2 hy3 hy4 hy5 hy6 hy7 hy8 hy9 hz0 hz1 hz2 hz3 hz4 hz5 hz6 hz7 hz8 hz9
  refine W.seq (W.chunk ?_)
  simp (disch := first|omega|exact zE rfl|exact zO|exact zL rfl) [c5_o14, zG, q, j1, app_if, app_if', hB1]
  refine W.seq (W.chunk ?_)
  simp (disch := first|omega|exact zE rfl|exact zO|exact zL rfl) [c5_o15, zG, q, j2, app_if, app_if', hB2]
  refine W.seq (W.chunk ?_)
  simp (disch := first|omega|exact zE rfl|exact zO|exact zL rfl) [c5_o16, zG, q, j3, app_if, app_if', hB3]
  refine W.seq (W.chunk ?_)
  simp (disch := first|omega|exact zE rfl|exact zO|exact zL rfl) [c5_o17, zG, q, j4, app_if, app_if', hB4]
  refine W.seq (W.chunk ?_)
  simp (disch := first|omega|exact zE rfl|exact zO|exact zL rfl) [c5_o18, zG, q, j5, app_if, app_if', hB5]
  refine W.seq (W.chunk ?_)
  simp (disch := first|omega|exact zE rfl|exact zO|exact zL rfl) [c5_o19, zG, q, j6, app_if, app_if', hB6]
  refine W.seq (W.chunk ?_)
  simp (disch := first|omega|exact zE rfl|exact zO|exact zL rfl) [c5_o20, zG, q, j7, app_if, app_if', hB7]
  refine W.seq (W.chunk ?_)
  simp (disch := first|omega|exact zE rfl|exact zO|exact zL rfl) [c5_o21, zG, q, j8, app_if, app_if', hB8]
  refine W.seq (W.chunk ?_)
  simp (disch := first|omega|exact zE rfl|exact zO|exact zL rfl) [c5_o22, zG, q, j9, app_if, app_if', hB9]
  refine W.assoc ?_
  refine W.seq (W.chunk ?_)
  simp (disch := first|omega|exact zE rfl|exact zO|exact zL rfl) [c5_o23, zG, q]
  refine W.seq (W.chunk ?_)
  simp (disch := first|omega|exact zE rfl|exact zO|exact zL rfl) [c5_o24, zG, q]
  refine W.assoc ?_
  refine W.seq (W.chunk ?_)
  simp (config := {maxSteps := 1000000}) (disch := first|omega|exact zE rfl|exact zO|exact zL rfl) [c5_o25, zG, q, e13, e46, e78, e79]
  refine W.seq (W.chunk ?_)
  simp (disch := first|omega|exact zE rfl|exact zO|exact zL rfl) [c5_o26, zG, q]
  refine W.assoc ?_
  refine W.seq (W.chunk ?_)
  simp (disch := first|omega|exact zE rfl|exact zO|exact zL rfl) [c5_o27, zG, q]
  refine W.seq (W.block ?_)
  refine W.use (l3) (by simp (disch := first|omega|exact zE rfl|exact zO|exact zL rfl) [zG, q]) fun s1 H1 hp => ?_
  obtain ⟨rfl, q⟩ := hp
  try simp only [zW, if_true]
  refine W.seq (W.chunk ?_)
  simp (disch := first|omega|exact zE rfl|exact zO|exact zL rfl) [c5_o37, zG, q, k34x]
  refine W.seq (W.chunk ?_)
  simp (disch := first|omega|exact zE rfl|exact zO|exact zL rfl) [c5_o38, zG, q, k34y]
  refine W.seq (W.chunk ?_)
  simp (disch := first|omega|exact zE rfl|exact zO|exact zL rfl) [c5_o39, zG, q, k23]
  refine W.ret ?_
  try simp only [zW, if_true]
  exact fin _ _ (by simp [T.get])
theorem knZr : KnZr U1 where
  k23 := fun h => by
    simp (disch := decide) only [U1, addK_ne]
    simp (disch := decide) only [T31, T30, T29, T28, T27, T26, T25, T24, T23, T22, T21, T20, T19, T18, T17, T16, T15, T14, T13, T12, T11, T10, T9, T8, T7, T6, T5, T4, T3, T2, T1, addI_ne, addX_ne, addV_ne, addK_ne]
    exact k23_r h
  k24 := fun h x y a b hx hy hn => by
    simp (disch := decide) only [U1, addK_ne]
    simp (disch := decide) only [T31, T30, T29, T28, T27, T26, T25, T24, T23, T22, T21, T20, T19, T18, T17, T16, T15, T14, T13, T12, T11, T10, T9, T8, T7, T6, T5, T4, T3, T2, T1, addI_ne, addX_ne, addV_ne, addK_ne]
    exact k24_r h x y a b hx hy hn
  k27 := fun x n h a b => by
    simp (disch := decide) only [U1, T31, T30, T29, T28, T27, T26, T25, T24, T23, T22, T21, T20, T19, T18, T17, T16, T15, T14, T13, T12, T11, T10, T9, T8, T7, T6, T5, T4, T3, addX_ne, addK_ne]
    exact k27_2 x n h a b
  k28 := fun h y M n most a b c => by
    simp (disch := decide) only [U1, T31, T30, T29, T28, T27, T26, T25, T24, T23, T22, T21, T20, T19, T18, T17, T16, T15, T14, T13, T12, T11, T10, T9, T8, T7, T6, T5, T4, addX_ne, addK_ne]
    exact k28 h y M n most a b c
  kz := fun h n a b => by
    simp (disch := decide) only [U1, T31, T30, T29, T28, T27, T26, T25, T24, T23, T22, T21, T20, T19, T18, T17, T16, T15, T14, T13, T12, T11, T10, T9, T8, T7, T6, T5, T4, addX_ne, addK_ne]
    exact kz h n a b
  k30 := k30
  k31 := fun h a ha => by
    simp (disch := decide) only [U1, T31, T30, T29, T28, T27, T26, T25, T24, addK_ne]
    exact k31 h a ha
  k32 := fun h a ha => by
    simp (disch := decide) only [U1, T31, T30, T29, T28, addK_ne]
    exact k32 h a ha
  k33 := fun h a ha => by
    simp (disch := decide) only [U1, T31, T30, T29, T28, T27, T26, T25, T24, T23, T22, T21, T20, T19, addK_ne]
    exact k33 h a ha
  k34 := fun h a ha => by
    simp (disch := decide) only [U1, T31, T30, T29, T28, T27, T26, T25, T24, T23, T22, T21, T20, T19, T18, T17, T16, T15, T14, T13, T12, T11, addK_ne]
    exact k34 h a ha
theorem renamed_ok (h : Heap) (a : Int) {m v : AV} {M : List (List Int)} {A : List Int} (hm : MR h m M) (hv : LR h v A) : CallsTo tbl U1 5 [G a, m, v] h (.bool true, [], false) := renamed_law U1 knZr (fun _ _ => by simp (disch := decide) only [U1, T31, T30, T29, T28, T27, T26, T25, T24, T23, T22, T21, T20, T19, T18, T17, T16, T15, T14, T13, T12, T11, T10, T9, T8, T7, T6, T5, T4, T3, T2, T1, R21, R20, R19, R18, R17, R16, R15, R14, R13, R12, R11, R10, R9, R8, R7, R6, R5, R4, R3, R2, R1, addI_ne, addX_ne, addV_ne, addK_ne]; rfl) h a hm hv
end Go.Proofs.Ytjeemgaoonapgaa.Ev
set_option linter.unusedVariables false
set_option linter.unusedSimpArgs false
namespace Go.AEv
open Go.ChangeShapes Go.WideShapes Go.Proofs.Ytjeemgaoonapgaa.Ev
theorem MR.ext {h h' : Heap} (e : Ext h h') {y : AV} {M : List (List Int)} (m : MR h y M) : MR h' y M := by
  rcases m with m | ⟨b, v, cs, rfl, g, hl, hr⟩
  · exact .inl m
  · refine .inr ⟨b, v, cs, rfl, e _ _ g (by simp), hl, fun i r q => ?_⟩
    obtain ⟨l, h1, h2⟩ := hr i r q
    exact ⟨l, h1, LR.ext e h2⟩
theorem rows_lo {CK : CKT} {w : World} {H : Type} {enc : TypeId × Value → H} {P : Program} {e i : TypeId} (he : P.underlying e = some (.slice i)) (hi : P.underlying i = some (.int .i64)) (hc : P.cellsOf i = 1) :
    ∀ (vs : List Value) {φ : Nat → Emb} {h : Heap} (ho : h.own = []) (hr : HR CK w [] φ h w), (∀ u ∈ vs, ∃ fuel z, DataW.trod enc P w 0 (fun _ => true) true fuel e [u] = some z) →
    ∃ φ' h', ∃ (rs : List AV) (ls : List (List Int)), h'.own = [] ∧ HR CK w [] φ' h' w ∧ Stp φ h φ' h' ∧ Ext h h' ∧ rs.length = vs.length ∧ ls.length = vs.length ∧ ∀ (j : Nat) u r, vs[j]? = some u → rs[j]? = some r → VR φ' h' r u ∧ Value.oneCell' u = true ∧ ∃ l, ls[j]? = some l ∧ LR h' r l
  | [], φ, h, ho, hr, _ => ⟨φ, h, [], [], ho, hr, Stp.refl φ h, Ext.refl h, rfl, rfl, fun j u r q => by simp at q⟩
  | u :: us, φ, h, ho, hr, ht => by
    obtain ⟨fuel, z, hf⟩ := ht u (by simp)
    obtain ⟨φ1, h1, x, l, o1, r1, s1, e1, v1, p1, c1⟩ := ints_lo0 ho hr he hi hc hf
    obtain ⟨φ2, h2, rs, ls, o2, r2, s2, e2, l1, l2, q⟩ := rows_lo he hi hc us o1 r1 (fun u' hu => ht u' (by simp [hu]))
    refine ⟨φ2, h2, x :: rs, l :: ls, o2, r2, s1.trans s2, e1.trans e2, by simp [l1], by simp [l2], fun j u' r hu hr' => ?_⟩
    cases j with
    | zero =>
      simp only [List.getElem?_cons_zero, Option.some.injEq] at hu hr'
      subst hu hr'
      exact ⟨VR.step s2 _ _ v1, c1, l, rfl, p1.ext e2⟩
    | succ j =>
      simp only [List.getElem?_cons_succ] at hu hr' ⊢
      exact q j u' r hu hr'
theorem mat_lo {CK : CKT} {φ : Nat → Emb} {h : Heap} {w : World} (ho : h.own = []) (hr : HR CK w [] φ h w) {H : Type} {enc : TypeId × Value → H} {P : Program} {t e i : TypeId} {v : Value} {d : DataW H} {p : List MemPlace}
    (ht : P.underlying t = some (.slice e)) (he : P.underlying e = some (.slice i)) (hi : P.underlying i = some (.int .i64)) (hce : P.cellsOf e = 1) (hci : P.cellsOf i = 1) (hvs : ∃ a len cap, v = .slice a len cap) (k : DataW.Trod enc P w 0 (fun _ => true) true t v d p) :
    ∃ φ' h' x M, h'.own = [] ∧ HR CK w [] φ' h' w ∧ Stp φ h φ' h' ∧ Ext h h' ∧ VR φ' h' x v ∧ MR h' x M := by
  obtain ⟨va, vl, vc, rfl⟩ := hvs
  obtain ⟨fuel, hf⟩ := k
  rcases DataW.trod_slice ht hf with ⟨hcs, _⟩ | ⟨a, len, cap, elems, rest, n, _, hcs, _, _, hl, hm, hlen, hel, hsp, _⟩
  · have hcs' : Value.slice va vl vc = .slice none 0 0 := (List.cons.inj hcs).1
    rw [hcs']
    exact ⟨φ, h, .nils, [], ho, hr, Stp.refl φ h, Ext.refl h, by simp [VR], .inl ⟨.inl rfl, rfl⟩⟩
  · have hcs' : Value.slice va vl vc = .slice (some a) len cap := (List.cons.inj hcs).1
    rw [hcs']
    by_cases h0 : len = 0
    · subst h0
      exact ⟨φ, h, .slice0, [], ho, hr, Stp.refl φ h, Ext.refl h, by simp [VR], .inl ⟨.inr rfl, rfl⟩⟩
    · obtain ⟨hrl, hre⟩ := hsp rfl
      have each : ∀ j, j < cap → ∃ u, w.cell? (a.add j) = some u ∧ ∃ z, DataW.trod enc P w 0 (fun _ => true) true n e [u] = some z := fun j hj => by
        have hb' : ∃ y, (w.cells? 0 (a.add (j * P.cellsOf e)) (P.cellsOf e)).bind (DataW.trod enc P w 0 (fun _ => true) true n e) = some y := by
          by_cases hjl : j < len
          · rw [hel j hjl, List.getElem?_eq_getElem (by omega)]; exact ⟨_, rfl⟩
          · have := hre (j - len) (by omega)
            rw [show len + (j - len) = j by omega] at this
            rw [this, List.getElem?_eq_getElem (by omega)]; exact ⟨_, rfl⟩
        obtain ⟨y, hy⟩ := hb'
        rw [hce, Nat.mul_one, Option.bind_eq_some_iff] at hy
        obtain ⟨cs', h1, h2⟩ := hy
        have hl1 := (World.cells?_some h1).2.1
        obtain ⟨u, rfl⟩ : ∃ u, cs' = [u] := by
          cases cs' with
          | nil => simp at hl1
          | cons u r => cases r with
            | nil => exact ⟨u, rfl⟩
            | cons u' r => simp at hl1
        exact ⟨u, cell_of_cells?_one h1, y, h2⟩
      obtain ⟨f, hfe⟩ : ∃ f : Nat → Value, ∀ j, j < cap → w.cell? (a.add j) = some (f j) ∧ ∃ z, DataW.trod enc P w 0 (fun _ => true) true n e [f j] = some z :=
        ⟨fun j => if hj : j < cap then Classical.choose (each j hj) else .nilFunc, fun j hj => by
          simp only [dif_pos hj]
          exact Classical.choose_spec (each j hj)⟩
      obtain ⟨b, off, spot⟩ := a
      have hspot : spot = none := by simpa [Addr.add] using World.cell?_spot (hfe 0 (by omega)).1
      subst hspot
      have hcell : ∀ j, j < cap → w.cell? ⟨b, off + j, none⟩ = some (f j) := fun j hj => by rw [← Go.WideShapes.add_plain]; exact (hfe j hj).1
      obtain ⟨c, ty, fr, hb, hc0⟩ := cell_obj (hcell 0 (by omega))
      have hcj : ∀ j, j < cap → c[off + j]? = some (f j) := fun j hj => by
        obtain ⟨c', ty', fr', hb', hcj⟩ := cell_obj (hcell j hj)
        rw [hb] at hb'
        simp only [Option.some.injEq, Obj.cells.injEq] at hb'
        obtain ⟨rfl, _⟩ := hb'
        exact hcj
      have hsize : off + cap ≤ c.size := by
        have := (Array.getElem?_eq_some_iff.1 (hcj (cap - 1) (by omega))).1
        omega
      obtain ⟨φ1, h1, rs, ls, o1, r1, s1, e1, l1, l2, q⟩ := rows_lo he hi hci ((List.range len).map f) ho hr (fun u hu => by
        obtain ⟨j, hj, rfl⟩ := List.mem_map.1 hu
        obtain ⟨z, hz⟩ := (hfe j (by have := List.mem_range.1 hj; omega)).2
        exact ⟨n, z, hz⟩)
      simp only [List.length_map, List.length_range] at l1 l2
      have hat : ∀ j, j < len → ((List.range len).map f)[j]? = some (f j) := fun j hj => by simp [hj]
      refine ⟨AEv.upd φ1 h1.N ⟨b, off, cap⟩, h1.more (.cells 1 len rs), .slice h1.N 0 len len, ls, rfl, lo_add o1 r1 _ _ ?_, s1.trans (lo_stp o1 _ _), e1.trans (more_ext h1 o1 _), ?_, .inr ⟨h1.N, len, rs, by rw [l2], more_at _ _, by omega, fun j r hr' => ?_⟩⟩
      · refine ⟨c, ty, fr, hb, hsize, by show rs.length ≤ cap; omega, fun j x hx => ?_⟩
        have hj : j < len := by have := (List.getElem?_eq_some_iff.1 hx).1; omega
        obtain ⟨q1, q2, _⟩ := q j (f j) x (hat j hj) hx
        exact ⟨f j, hcj j (by omega), VR.step (lo_stp o1 _ _) _ _ q1, q2⟩
      · simp only [VR]
        exact ⟨_, cap, 1, len, _, rfl, hl, more_at _ _, Nat.le_refl _, fun _ => ⟨by simp [AEv.upd], fun _ _ => by simp [AEv.upd]⟩⟩
      · have hj : j < len := by have := (List.getElem?_eq_some_iff.1 hr').1; omega
        obtain ⟨_, _, l, q3, q4⟩ := q j (f j) r (hat j hj) hr'
        exact ⟨l, q3, q4.ext (more_ext h1 o1 _)⟩
end Go.AEv
