/-
  Rows of a square, and Power. No condition.
-/
import Derived.Test.YtjeemgaoonapgaaRPow2
set_option linter.unusedVariables false
set_option linter.unusedSimpArgs false
namespace Go.Proofs.Ytjeemgaoonapgaa.Ev
open Go Go.AEv

attribute [local simp] evFunc initS evOps_c evTrim_c evSkip_c evExit_c evRet_c evSeq_c evCond_c evBlock_c evDraw_c runOps_n runOps_c exec_n exec_g pure1_c act AOpd.ev T.get T.set T.put evBin evUn forceT_eq forceV_eq forceL_eq evRess evRes one keep runFP_n runFP_c app_none AV.flats AV.flat came_some List.getElem?_cons_zero List.getElem?_cons_succ beqT wrapI idxI tdivI tmodI decT decF ibT ibF inT inF evScope_c if_pos if_neg Cm_some thenW_n thenW_e thenW_r blkW_n blkW_e blkW_r goI kn putAt AV.cells fillA loadA takeA mk Eff.isAll Eff.isNone Eff.commutes Eff.spares okPair apart eqAgg fits LK.fits allEq aveq eqk mmA

/-! ### Clone -/
structure A79 where
  b : Nat
  o : Nat
  n : Nat
  v : Nat
  g : Nat
  cs : List AV
def Ok79 (a : A79) (h : Heap) : Prop := h.get a.b = .cells a.g a.v a.cs ∧ ((a.cs.drop a.o).take a.n).length = a.n ∧ 0 < a.n ∧ a.n ≤ 1000
theorem c79_ok (J : CallF) (hJ : ∀ a h, J 79 a h = none) (h : Heap) (a : A79) (ha : Ok79 a h) : CallsTo tbl J 79 [.slice a.b a.o a.n a.v] h (.slice h.size 0 a.n a.n, [.cells 1 a.n ((a.cs.drop a.o).take a.n)], false) := by
  obtain ⟨b, o, n, v, g, cs⟩ := a
  obtain ⟨hg, hl, h0, hn⟩ := ha
  simp only at hg hl h0 hn ⊢
  refine Tr.fnh (cf := c79) (e := .ret) (s := T.set .leaf [] (.slice b o n v)) (by decide) rfl (hJ _ _) rfl rfl rfl (by simp) ?_
  have hb := get_lt hg (by simp)
  generalize hL : (cs.drop o).take n = L at *
  have n0 : ¬ n = 0 := by omega
  have hel : ∀ own, elems ⟨h.get, h.size, own⟩ 1 (.slice b o n v) = some (n, L) := fun own => by
    have e : Heap.get ⟨h.get, h.size, own⟩ b = .cells g v cs := by rw [get_mk_lt _ _ _ _ hb]; exact hg
    simp only [elems, e, if_true, Nat.mul_one, hL]
    rw [if_pos hl]
  refine Tr.w fun s1 H1 hp R kR => ?_
  obtain ⟨rfl, rfl⟩ := hp
  have q : True := trivial
  refine W.seq (W.chunk ?_)
  simp (disch := first | omega | exact getEq rfl | exact getO0 | exact Nat.le_of_ble_eq_true rfl) [c79_o0, size_mk, get_mk_lt, get_mk_ge, frameOf, Eff.app, Heap.setOwn, q]
  refine W.assoc ?_
  refine W.seq (W.chunk ?_)
  simp (disch := first | omega | exact getEq rfl | exact getO0 | exact Nat.le_of_ble_eq_true rfl) [c79_o1, size_mk, get_mk_lt, get_mk_ge, frameOf, Eff.app, Heap.setOwn, q, eqk]
  refine W.seq (W.chunk ?_)
  simp (disch := first | omega | exact getEq rfl | exact getO0 | exact Nat.le_of_ble_eq_true rfl) [c79_o2, size_mk, get_mk_lt, get_mk_ge, frameOf, Eff.app, Heap.setOwn, q]
  refine W.seq (W.chunk ?_)
  simp (disch := first | omega | exact getEq rfl | exact getO0 | exact Nat.le_of_ble_eq_true rfl) [c79_o3, size_mk, get_mk_lt, get_mk_ge, frameOf, Eff.app, Heap.setOwn, q, hel, appA, n0, frameOf, rdOf]
  refine W.ret ?_
  try simp only [thenW_n, thenW_e, thenW_r, blkW_n, blkW_e, blkW_r, if_true]
  exact kR _ _ (by simp [T.get, c79, evRess, evRes, one, hl])

def Pre79 (a : A79) (args : List AV) (h : Heap) : Prop := Ok79 a h ∧ args = [.slice a.b a.o a.n a.v]
def Post79 (a : A79) (h : Heap) (v : AV) (own : List AObj) : Prop := v = .slice h.size 0 a.n a.n ∧ own = [.cells 1 a.n ((a.cs.drop a.o).take a.n)]
noncomputable def T12 : CallF := addK tbl T11 79 Pre79 Post79
theorem t12 : Sound Go.Proofs.Try.prog T12 := Sound.addK follows ok t11 (by decide) _ _
abbrev K79 (J : CallF) : Prop := ∀ (h : Heap) (a : A79), Ok79 a h → J 79 [.slice a.b a.o a.n a.v] h = some (.slice h.size 0 a.n a.n, [.cells 1 a.n ((a.cs.drop a.o).take a.n)], false)
theorem k79 : K79 T12 := fun h a ha => by
  obtain ⟨v, own, e, rfl, rfl⟩ := addK_some (tbl := tbl) (I := T11) (f := 79) (Pre := Pre79) (Post := Post79) (fun a args h hp => by
    obtain ⟨ha, rfl⟩ := hp
    exact ⟨_, _, c79_ok T11 (fun _ _ => by simp (disch := decide) only [T11, T10, T9, T8, T7, T6, T5, T4, T3, T2, T1, R21, R20, R19, R18, R17, R16, R15, R14, R13, R12, R11, R10, R9, R8, R7, R6, R5, R4, R3, R2, R1, addI_ne, addX_ne, addV_ne, addK_ne]; rfl) h a ha, rfl, rfl⟩) a _ h ⟨ha, rfl⟩
  exact e

/-! ### Places that are kept -/
theorem evDraw_k (r : Rec) (k : Nat) (os : List COper) (ps : List (Nat × Nat)) (anc : List (List Nat)) (s : T) (h : Heap) : evCode r (.draw k os ps anc) s h = match runFP r.call h os s (h.plus (List.replicate k .hole)) with
    | some (s', h', fps) => if ps.all (fun p => okPair h.size (fps.getD p.1 {}) (fps.getD p.2 {})) && (fps.all (fun f => !f.eff.isAll) || bars anc fps) then some (.normal, s', h') else none
    | none => none := rfl
theorem fill_plus0 (h : Heap) (b : Nat) (hb : h.size = b) (x : AObj) (xs : List AObj) : Eff.app (.fill b x) (h.plus (.hole :: xs)) = some (h.plus (x :: xs)) := by
  subst hb
  have h1 : ¬ h.size < h.N := by unfold Heap.size; omega
  have h2 : h.size - h.N = h.own.length := by unfold Heap.size; omega
  simp only [Eff.app, Heap.plus, h1, if_false, h2]
  rw [List.getElem?_append_right (by omega), Nat.sub_self]
  simp only [List.getElem?_cons_zero, Heap.setOwn_eq, h2]
  rw [List.set_append_right _ _ (by omega), Nat.sub_self]
  rfl
theorem fill_plus1 (h : Heap) (b : Nat) (hb : h.size + 1 = b) (x y : AObj) (xs : List AObj) : Eff.app (.fill b x) (h.plus (y :: .hole :: xs)) = some (h.plus (y :: x :: xs)) := by
  have := fill_plus0 (h.plus [y]) b (by rw [plus_size]; exact hb) x xs
  rwa [plus_plus, plus_plus] at this
/-- A row more, in a place that was kept. -/
theorem TB.appD {H0 H : Heap} {x : AV} {css : List (List AV)} (t : TB H0 H x css) (L : List AV) (hn : css.length ≤ 1000000) :
    ∃ x1 e H2, appA (H.plus [.cells 1 1 [.slice (H.size + 2) 0 L.length L.length], .hole, .cells 1 L.length L]) H.size (some 1) 1 24 1 [.slice (H.size + 2) 0 L.length L.length] x = some (x1, e) ∧ Eff.app e (H.plus [.cells 1 1 [.slice (H.size + 2) 0 L.length L.length], .hole, .cells 1 L.length L]) = some H2 ∧ TB H0 H2 x1 (css ++ [L]) ∧ ((∃ i X, e = .fill i X) ∨ (∃ b v g vs, e = .ext b v g vs)) := by
  obtain ⟨rs, lv, hl, hr⟩ := t.r
  generalize hvv : AV.slice (H.size + 2) 0 L.length L.length = r
  have old : ∀ (X : AObj), (H.plus [.cells 1 1 [r], X, .cells 1 L.length L]).get (H.size + 2) = .cells 1 L.length L := fun X => by
    rw [plus_ge _ _ _ (by omega), show H.size + 2 - H.size = 2 by omega]; rfl
  have szz : ∀ (X : AObj), (H.plus [.cells 1 1 [r], X, .cells 1 L.length L]).size = H.size + 3 := fun X => by rw [plus_size]; rfl
  rcases lv with ⟨rfl, rfl⟩ | ⟨b, rfl, g, hN⟩
  · have hc : css = [] := List.length_eq_zero_iff.1 hl.symm
    subst hc
    refine ⟨.slice (H.size + 1) 0 1 1, .fill (H.size + 1) (.cells 1 1 [r]), H.plus [.cells 1 1 [r], .cells 1 1 [r], .cells 1 L.length L], rfl, fill_plus1 _ _ rfl _ _ _, ⟨t.k.trans (Kp.plus _ _), fun q hq => ?_, [r], .inr ⟨H.size + 1, rfl, ?_, ?_⟩, rfl, fun i r' hi => ?_⟩, .inl ⟨_, _, rfl⟩⟩
    · cases hq; have := t.k.size; omega
    · rw [plus_ge _ _ _ (by omega), show H.size + 1 - H.size = 1 by omega]; rfl
    · show H.N ≤ H.size + 1; unfold Heap.size; omega
    · have hi0 : i = 0 := by
        have := (List.getElem?_eq_some_iff.1 hi).1
        simpa using this
      subst hi0
      simp only [List.getElem?_cons_zero, Option.some.injEq] at hi
      subst hi
      exact ⟨L, H.size + 2, rfl, hvv.symm, old _, (by simp [blk]), by have := t.k.size; omega⟩
  · have hlt := get_lt g (by simp)
    have hb2 : (H.plus [.cells 1 1 [r], .hole, .cells 1 L.length L]).get b = .cells 1 rs.length rs := by rw [plus_lt _ _ _ hlt, g]
    have hN' : (H.plus [.cells 1 1 [r], .hole, .cells 1 L.length L]).N ≤ b := by rw [plus_N]; exact hN
    have lb : ∀ q, q ≠ b → ((H.plus [.cells 1 1 [r], .hole, .cells 1 L.length L]).upd b (.cells 1 (rs.length + 1) (rs ++ [r]))).get q = (H.plus [.cells 1 1 [r], .hole, .cells 1 L.length L]).get q := fun q hq => upd_ne _ _ _ _ hN' (fun e => hq e.symm)
    refine ⟨.slice b 0 (rs.length + 1) (rs.length + 1), .ext b rs.length 1 [r], (H.plus [.cells 1 1 [r], .hole, .cells 1 L.length L]).upd b (.cells 1 (rs.length + 1) (rs ++ [r])), ?_, ?_, ⟨?_, fun q hq => t.x0 q hq, rs ++ [r], .inr ⟨b, by simp, ?_, by rw [upd_N]; exact hN'⟩, by simp [hl], fun i r' hi => ?_⟩, .inr ⟨_, _, _, _, rfl⟩⟩
    · simp only [appA, Nat.mul_one, Nat.one_mul]
      rw [if_neg (by decide), if_pos ⟨trivial, by simp, by omega⟩]
    · exact ext_gen _ b rs.length 1 rs [r] hN' hb2 rfl
    · exact (t.k.trans (Kp.plus (M := fun _ => False) _ _)).late (Kp.upd (M := fun q => q = b) _ _ _ hN' rfl) (fun q hq => by rw [hq]; exact t.x0 b rfl)
    · rw [upd_same _ _ _ hN' (by rw [szz]; omega)]; simp
    · by_cases hi' : i < rs.length
      · rw [List.getElem?_append_left hi'] at hi
        obtain ⟨l', b', h1, h2', h3, h4, h5⟩ := hr i r' hi
        have hne : b' ≠ b := fun e => h4 (by rw [e]; rfl)
        exact ⟨l', b', by rw [List.getElem?_append_left (by omega)]; exact h1, h2', by rw [lb _ hne, plus_lt _ _ _ (get_lt h3 (by simp))]; exact h3, h4, h5⟩
      · rw [List.getElem?_append_right (by omega)] at hi
        have hi0 : i - rs.length = 0 := by
          rcases Nat.eq_zero_or_pos (i - rs.length) with e | e
          · exact e
          · rw [List.getElem?_eq_none (by simp; omega)] at hi; cases hi
        rw [hi0] at hi
        simp only [List.getElem?_cons_zero, Option.some.injEq] at hi
        subst hi
        exact ⟨L, H.size + 2, by rw [List.getElem?_append_right (by omega), ← hl, hi0]; rfl, hvv.symm, by rw [lb _ (by omega)]; exact old _, (by intro e; cases e; omega), by have := t.k.size; omega⟩

/-! ### rows -/
def rwL (X : Nat → Int) (n i : Nat) : List Int := lf (fun j => X (i * 8 + j)) n
theorem sq_row (X : Nat → Int) {n i : Nat} (hi : i < 8) (hn : n ≤ 8) : ((sq X).drop (i * 8)).take n = gs (rwL X n i) := by
  apply List.ext_getElem?
  intro j
  by_cases hj : j < n
  · rw [List.getElem?_take, if_pos hj, List.getElem?_drop, sq_at _ (by omega)]
    show _ = (gs (lf (fun j => X (i * 8 + j)) n))[j]?
    rw [gl_at _ hj]
  · rw [List.getElem?_take, if_neg hj, List.getElem?_eq_none (by simp [rwL, lf_len]; omega)]
section
variable {M : List (List Int)}
theorem n74_5 (J : CallF) (k79 : K79 J) {H H2 : Heap} {bm bx n i : Nat} {X : Nat → Int} {x x1 : AV} {e : Eff} (gm : H.get bm = .cells 0 65 (matC M)) (e0 : (matC M)[0]? = some (G n)) (gx : H.get bx = .cells 0 64 (sq X)) (hi : i < n) (hn : n ≤ 8)
    (q1 : appA (H.plus [.cells 1 1 [.slice (H.size + 2) 0 n n], .hole, .cells 1 n (gs (rwL X n i))]) H.size (some 1) 1 24 1 [.slice (H.size + 2) 0 n n] x = some (x1, e)) (q2 : Eff.app e (H.plus [.cells 1 1 [.slice (H.size + 2) 0 n n], .hole, .cells 1 n (gs (rwL X n i))]) = some H2) (q3 : (∃ i X, e = .fill i X) ∨ (∃ b v g vs, e = .ext b v g vs)) :
    Tr tbl J c74_o5 (fun s h => h = H ∧ s.get [true] = .ptr bm 0 65 ∧ s.get [false, false] = .ptr bx 0 64 ∧ s.get [false, true] = x ∧ s.get [true, true] = G i ∧ s.get [true, false, false] = G n ∧ s.get [false, true, false] = G i) .normal (fun s h => h = H2 ∧ s.get [true] = .ptr bm 0 65 ∧ s.get [false, false] = .ptr bx 0 64 ∧ s.get [false, true] = x1 ∧ s.get [true, false, false] = G n ∧ s.get [false, true, false] = G i) := by
  have e0' := getI e0
  have lm := matC_len M
  have gm' := plus_keep [.hole, .hole] gm (by simp)
  have gx' := plus_keep [.hole, .hole] gx (by simp)
  have lr : (gs (rwL X n i)).length = n := by simp [rwL, lf_len]
  have k := k79 (H.plus [.hole, .hole]) ⟨bx, i * 8, n, 64, 0, sq X⟩ ⟨gx', by simp only; rw [sq_row X (by omega) hn, lr], by simp only; omega, by simp only; omega⟩
  simp only at k
  rw [sq_row X (by omega) hn, plus_size] at k
  have f0 := fill_plus0 H H.size rfl (.cells 1 1 [.slice (H.size + 2) 0 n n]) [.hole, .cells 1 n (gs (rwL X n i))]
  have f1 : (H.plus [.cells 1 1 [.slice (H.size + 2) 0 n n], .hole, .cells 1 n (gs (rwL X n i))]).get H.size = .cells 1 1 [.slice (H.size + 2) 0 n n] := plus_at0 _ _ _ _ rfl
  have sz : [AObj.hole, .hole].length = 2 := rfl
  rw [sz] at k
  generalize gs (rwL X n i) = L at *
  generalize sq X = cx at *
  generalize matC M = cm at *
  refine Tr.w fun s1 H1 hp R kR => ?_
  obtain ⟨rfl, q⟩ := hp
  rcases q3 with ⟨i', X', rfl⟩ | ⟨b', v', g', vs', rfl⟩
  all_goals
    refine W.chunk ?_
    simp (disch := first | omega | exact getEq rfl | exact getO0 | exact Nat.le_of_ble_eq_true rfl) [-evDraw_c, c74_o5, app_growP, app_noneP, plus_N, plus_at0, put_plus0, put_plus1, upd_N, upd_size, q, evDraw_k, gm', gx', e0, e0', lm, k, bounds, plus_plus, plus_size, f0, f1, elems, rdOf, q1, q2]
    exact kR _ _ (by simp [T.get, q])
theorem rwsL_s (X : Nat → Int) (n i : Nat) : ((List.range (i + 1)).map fun i => gs (rwL X n i)) = ((List.range i).map fun i => gs (rwL X n i)) ++ [gs (rwL X n i)] := by simp [List.range_succ]
theorem c74_l (J : CallF) (k79 : K79 J) {H0 : Heap} {bm bx : Nat} {X : Nat → Int} (hm : isMat M = true) (gm : H0.get bm = .cells 0 65 (matC M)) (gx : H0.get bx = .cells 0 64 (sq X)) :
    Tr tbl J c74_l0 (fun s h => h = H0 ∧ s.get [true] = .ptr bm 0 65 ∧ s.get [false, false] = .ptr bx 0 64 ∧ s.get [false, true] = .nils ∧ s.get [true, false, false] = G M.length ∧ s.get [false, true, false] = G ((0 : Nat) : Int)) (.exit 0) (fun s h => ∃ x, TB H0 h x ((List.range M.length).map fun i => gs (rwL X M.length i)) ∧ s.get [false, true] = x) := by
  have h8 := isMat_n hm
  refine Tr.pre (P := fun s h => ∃ x, TB H0 h x ((List.range 0).map fun i => gs (rwL X M.length i)) ∧ s.get [true] = .ptr bm 0 65 ∧ s.get [false, false] = .ptr bx 0 64 ∧ s.get [false, true] = x ∧ s.get [true, false, false] = G M.length ∧ s.get [false, true, false] = G ((0 : Nat) : Int)) (fun s h q => ⟨.nils, by rw [q.1]; exact TB.nil H0, q.2⟩) ?_
  refine Tr.rounds (P := fun i s h => ∃ x, TB H0 h x ((List.range i).map fun i => gs (rwL X M.length i)) ∧ s.get [true] = .ptr bm 0 65 ∧ s.get [false, false] = .ptr bx 0 64 ∧ s.get [false, true] = x ∧ s.get [true, false, false] = G M.length ∧ s.get [false, true, false] = G i) (M := M.length) (fun i hi => ?_) ?_ (by simp) 0 (by omega)
  · refine Tr.w fun s1 H1 hp R kR => W.trim ?_
    obtain ⟨x, tb, q⟩ := hp
    have lr : (gs (rwL X M.length i)).length = M.length := by simp [rwL, lf_len]
    obtain ⟨x1, e, H2, q1, q2, tb2, q3⟩ := tb.appD (gs (rwL X M.length i)) (by simp; omega)
    rw [← rwsL_s] at tb2
    rw [lr] at q1 q2
    have t := n74_5 J k79 (tb.k.at gm (by simp) id) rfl (tb.k.at gx (by simp) id) hi h8.2 q1 q2 q3
    clear tb
    generalize M.length = n at *
    refine W.seq (W.chunk ?_)
    simp (disch := first | omega | exact getEq rfl | exact getO0 | exact Nat.le_of_ble_eq_true rfl) [c74_o3, app_growP, app_noneP, plus_N, plus_at0, put_plus0, put_plus1, upd_N, upd_size, q]
    refine W.seq (W.chunk ?_)
    simp (disch := first | omega | exact getEq rfl | exact getO0 | exact Nat.le_of_ble_eq_true rfl) [app_growP, app_noneP, plus_N, plus_at0, put_plus0, put_plus1, upd_N, upd_size, q]
    refine W.seq (W.block ?_)
    refine W.seq (W.chunk ?_)
    simp (disch := first | omega | exact getEq rfl | exact getO0 | exact Nat.le_of_ble_eq_true rfl) [c74_o4, app_growP, app_noneP, plus_N, plus_at0, put_plus0, put_plus1, upd_N, upd_size, q]
    refine W.use (t) (by simp (disch := first | omega | exact getEq rfl | exact getO0 | exact Nat.le_of_ble_eq_true rfl) [app_growP, app_noneP, plus_N, plus_at0, put_plus0, put_plus1, upd_N, upd_size, q]) fun s1 H1 hp => ?_
    obtain ⟨rfl, q⟩ := hp
    try simp only [thenW_n, thenW_e, thenW_r, blkW_n, blkW_e, blkW_r, if_true]
    refine W.chunk ?_
    simp (disch := first | omega | exact getEq rfl | exact getO0 | exact Nat.le_of_ble_eq_true rfl) [c74_o6, app_growP, app_noneP, plus_N, plus_at0, put_plus0, put_plus1, upd_N, upd_size, q]
    exact kR _ _ ⟨_, tb2, by simp [T.get, q]⟩
  · refine Tr.w fun s1 H1 hp R kR => W.trim ?_
    obtain ⟨x, tb, q⟩ := hp
    refine W.seq (W.chunk ?_)
    simp (disch := first | omega | exact getEq rfl | exact getO0 | exact Nat.le_of_ble_eq_true rfl) [c74_o3, app_growP, app_noneP, plus_N, plus_at0, put_plus0, put_plus1, upd_N, upd_size, q]
    refine W.seq (W.chunk ?_)
    simp (disch := first | omega | exact getEq rfl | exact getO0 | exact Nat.le_of_ble_eq_true rfl) [app_growP, app_noneP, plus_N, plus_at0, put_plus0, put_plus1, upd_N, upd_size, q]
    exact kR _ _ ⟨_, tb, by simp [T.get, q]⟩
theorem TB.fr0 {h h' : Heap} {x : AV} {L : List (List AV)} (t : TB (frameOf h) h' x L) : TB h (h.plus (if (one [x]).flat then [] else h'.own)) x L := by
  split
  · rename_i hf
    obtain ⟨rs, lv, hl, hr⟩ := t.r
    rcases lv with ⟨rfl, rfl⟩ | ⟨b, rfl, g, n⟩
    · have : L = [] := List.length_eq_zero_iff.1 hl.symm
      subst this
      have : h.plus [] = h := by simp [Heap.plus]
      rw [this]; exact TB.nil h
    · simp [one, AV.flat, AV.flats] at hf
  · exact t.fr
theorem TB.up {h : Heap} {X : List AObj} {H' : Heap} {w : AV} {L : List (List AV)} (t : TB ⟨h.get, h.size, X⟩ H' w L) : TB (frameOf h) H' w L := by
  obtain ⟨rs, lv, hl, hr⟩ := t.r
  have ks := (Kp.plus (M := fun _ => False) (frameOf h) X).size
  exact ⟨(Kp.plus (frameOf h) X).trans t.k, fun q hq => Nat.le_trans ks (t.x0 q hq), rs, lv, hl, fun i r hi => by
    obtain ⟨cs, b, h1, h2, h3, h4, h5⟩ := hr i r hi
    exact ⟨cs, b, h1, h2, h3, h4, Nat.le_trans ks h5⟩⟩
theorem c74_ok (J : CallF) (k79 : K79 J) (hJ : ∀ a h, J 74 a h = none) (h : Heap) (hm : isMat M = true) (X : Nat → Int) : ∃ v own, CallsTo tbl J 74 [.agg (matC M), .agg (sq X)] h (v, own, false) ∧ TB h (h.plus own) v ((List.range M.length).map fun i => gs (rwL X M.length i)) := by
  refine Tr.fny (cf := c74) (e := .ret) (s := T.set (T.set .leaf [] (.agg (matC M))) [false] (.agg (sq X))) (by decide) rfl (hJ _ _) rfl rfl (by simp) ?_
  have h8 := isMat_n hm
  have lm := matC_len M
  have lx := sq_len X
  have e0 : (matC M)[0]? = some (G M.length) := rfl
  have e0' := getI e0
  have gm : Heap.get ⟨h.get, h.size, [.cells 0 65 (matC M), .cells 0 64 (sq X)]⟩ h.size = .cells 0 65 (matC M) := by rw [get_mk_ge _ _ _ _ (by omega)]; simp
  have gx : Heap.get ⟨h.get, h.size, [.cells 0 65 (matC M), .cells 0 64 (sq X)]⟩ (h.size + 1) = .cells 0 64 (sq X) := by rw [get_mk_ge _ _ _ _ (by omega)]; simp
  have lo := c74_l J k79 hm gm gx
  refine Tr.w fun s1 H1 hp R kR => ?_
  obtain ⟨rfl, rfl⟩ := hp
  have q : True := trivial
  refine W.seq (W.chunk ?_)
  simp (disch := first | omega | exact getEq rfl | exact getO0 | exact Nat.le_of_ble_eq_true rfl) [c74_o0, size_mk, get_mk_lt, get_mk_ge, frameOf, Eff.app, Heap.setOwn, q, lm, lx, frameOf]
  refine W.seq (W.chunk ?_)
  simp (disch := first | omega | exact getEq rfl | exact getO0 | exact Nat.le_of_ble_eq_true rfl) [c74_o1, size_mk, get_mk_lt, get_mk_ge, frameOf, Eff.app, Heap.setOwn, q]
  refine W.assoc ?_
  refine W.seq (W.chunk ?_)
  simp (disch := first | omega | exact getEq rfl | exact getO0 | exact Nat.le_of_ble_eq_true rfl) [c74_o2, size_mk, get_mk_lt, get_mk_ge, frameOf, Eff.app, Heap.setOwn, q, e0, e0', lm]
  refine W.seq (W.block ?_)
  refine W.use (lo) (by simp (disch := first | omega | exact getEq rfl | exact getO0 | exact Nat.le_of_ble_eq_true rfl) [size_mk, get_mk_lt, get_mk_ge, frameOf, Eff.app, Heap.setOwn, q]) fun s1 H1 hp => ?_
  obtain ⟨x, tb, q⟩ := hp
  try simp only [thenW_n, thenW_e, thenW_r, blkW_n, blkW_e, blkW_r, if_true]
  refine W.seq (W.chunk ?_)
  simp (disch := first | omega | exact getEq rfl | exact getO0 | exact Nat.le_of_ble_eq_true rfl) [c74_o7, size_mk, get_mk_lt, get_mk_ge, frameOf, Eff.app, Heap.setOwn, q]
  refine W.ret ?_
  try simp only [thenW_n, thenW_e, thenW_r, blkW_n, blkW_e, blkW_r, if_true]
  exact kR _ _ ⟨[x], by simp [T.get, c74, evRess, evRes, q], tb.up.fr0⟩
end

end Go.Proofs.Ytjeemgaoonapgaa.Ev
