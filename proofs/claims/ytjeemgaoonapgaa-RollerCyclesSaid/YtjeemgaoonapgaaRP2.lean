/-
  Of the functions that this law reaches, part 2: what they answer. No condition.
-/
import Derived.Test.YtjeemgaoonapgaaRP1
set_option linter.unusedVariables false
set_option linter.unusedSimpArgs false
namespace Go.Proofs.Ytjeemgaoonapgaa.Ev
open Go Go.AEv
attribute [local simp] evFunc initS evOps_c evTrim_c evSkip_c evExit_c evRet_c evSeq_c evCond_c evBlock_c evDraw_c runOps_n runOps_c exec_n exec_g pure1_c act AOpd.ev T.get T.set T.put evBin evUn forceT_eq forceV_eq forceL_eq evRess evRes one keep runFP_n runFP_c app_none AV.flats AV.flat came_some List.getElem?_cons_zero List.getElem?_cons_succ beqT wrapI idxI tdivI tmodI decT decF ibT ibF inT inF evScope_c if_pos if_neg Cm_some thenW_n thenW_e thenW_r blkW_n blkW_e blkW_r goI kn putAt AV.cells fillA loadA takeA mk Eff.isAll Eff.isNone Eff.commutes Eff.spares okPair apart eqAgg fits LK.fits allEq aveq eqk mmA
section
variable {M : List (List Int)}
theorem c63_k (J : CallF) (k60 : K60 J) (h0 : Heap) (hm : isMat M = true) {qc qo i : Nat} (hi : i < M.length) : ∀ d k, k + d = M.length →
    Tr tbl J c63_l2 (fun s h => ∃ f xq Q p, BI M i f Q k 0 p ∧ k ≤ Q.length ∧ BS h0 h M qc qo f xq Q ∧ s.get [false] = G i ∧ s.get [true] = .ptr h0.size 0 65 ∧ s.get [true, true] = .slice qc 0 M.length M.length ∧ s.get [false, false, false] = .slice qo 0 M.length M.length ∧ s.get [false, true, false] = xq ∧ s.get [true, true, false] = G (p : Nat) ∧ s.get [false, false, true] = G k) (.exit 2)
      (fun s h => ∃ f xq Q p, BI M i f Q Q.length 0 p ∧ BS h0 h M qc qo f xq Q ∧ s.get [false, false, false] = .slice qo 0 M.length M.length ∧ s.get [true, true, false] = G (p : Nat)) := by
  have h8 := isMat_n hm
  have e0 : (matC M)[0]? = some (G M.length) := rfl
  have e0' := getI e0
  have lm := matC_len M
  intro d
  induction d with
  | zero =>
    intro k hk
    refine Tr.w fun s1 H1 hp R kR => ?_
    obtain ⟨f, xq, Q, p, bi, hkQ, bs, q⟩ := hp
    have hQn : Q.length ≤ M.length := by have := bi.cn; omega
    obtain rfl : k = Q.length := by omega
    obtain ⟨bq, rfl, g9, _⟩ := id bs.lq
    refine W.loop (W.trim ?_)
    refine W.assoc ?_
    refine W.seq (W.chunk ?_)
    simp (disch := first|omega|exact zE rfl|exact zO|exact zL rfl) [c63_o12, zG, q]
    refine W.seq (W.chunk ?_)
    simp (disch := first|omega|exact zE rfl|exact zO|exact zL rfl) [zG, q]
    exact kR _ _ ⟨f, _, Q, p, bi, bs, by simp [T.get, q]⟩
  | succ d ih =>
    intro k hk
    have ih := ih (k + 1) (by omega)
    refine Tr.w fun s1 H1 hp R kR => ?_
    obtain ⟨f, xq, Q, p, bi, hkQ, bs, q⟩ := hp
    have hQn : Q.length ≤ M.length := by have := bi.cn; omega
    by_cases c : k = Q.length
    · subst c
      obtain ⟨bq, rfl, g9, _⟩ := id bs.lq
      refine W.loop (W.trim ?_)
      refine W.assoc ?_
      refine W.seq (W.chunk ?_)
      simp (disch := first|omega|exact zE rfl|exact zO|exact zL rfl) [c63_o12, zG, q]
      refine W.seq (W.chunk ?_)
      simp (disch := first|omega|exact zE rfl|exact zO|exact zL rfl) [zG, q]
      exact kR _ _ ⟨f, _, Q, p, bi, bs, by simp [T.get, q]⟩
    · have hlt : k < Q.length := by omega
      obtain ⟨u, hu⟩ : ∃ u, Q[k]? = some u := ⟨Q[k], List.getElem?_eq_getElem hlt⟩
      have l1 := c63_v (u := u) (k := k) (qc := qc) (qo := qo) J k60 h0 hm hi
      obtain ⟨bq, rfl, g9, _⟩ := id bs.lq
      have ex : ∃ f' xq' Q' p', BI M i f' Q' k 0 p' ∧ Q'[k]? = some u ∧ BS h0 H1 M qc qo f' xq' Q' ∧ AV.slice bq 0 Q.length Q.length = xq' ∧ (p : Int) = (p' : Nat) := ⟨f, _, Q, p, bi, hu, bs, rfl, rfl⟩
      have eu := qs_at hu
      have lq := qs_len Q
      have eu' := getI eu
      have gm := bs.gm
      clear bi
      generalize qs Q = cq at *
      refine W.loop (W.trim ?_)
      refine W.assoc ?_
      refine W.seq (W.chunk ?_)
      simp (disch := first|omega|exact zE rfl|exact zO|exact zL rfl) [c63_o12, zG, q]
      refine W.seq (W.chunk ?_)
      simp (disch := first|omega|exact zE rfl|exact zO|exact zL rfl) [zG, q]
      refine W.seq (W.block ?_)
      refine W.seq (W.chunk ?_)
      simp (disch := first|omega|exact zE rfl|exact zO|exact zL rfl) [c63_o13, zG, q, g9, eu, eu', lq]
      refine W.seq (W.chunk ?_)
      simp (disch := first|omega|exact zE rfl|exact zO|exact zL rfl) [c63_o14, zG, q, gm, e0, e0', lm]
      refine W.block ?_
      refine W.use (l1) (by simp (disch := first|omega|exact zE rfl|exact zO|exact zL rfl) [zG, q, ex]) fun s1 H1 hp => ?_
      obtain ⟨f2, xq2, Q2, p2, bi2, hu2, bs2, q⟩ := hp
      try simp only [zW, if_true]
      refine W.chunk ?_
      simp (disch := first|omega|exact zE rfl|exact zO|exact zL rfl) [c63_o23, zG, q]
      have hk2 := (List.getElem?_eq_some_iff.1 hu2).1
      exact W.use ih ⟨f2, xq2, Q2, p2, bi2.nextk hm, hk2, bs2, by simp [T.get, q]⟩ kR
theorem c63_l0_ok (J : CallF) {H : Heap} {y1 y2 y6 : AV} {n : Nat} (h8 : n ≤ 8) : Tr tbl J c63_l0 (fun s h => h = H.plus [.cells 1 n (gs (lf (m1F 0) n))] ∧ s.get [false] = y1 ∧ s.get [true] = y2 ∧ s.get [true, true] = y6 ∧ s.get [false, false, false] = .slice H.size 0 n n ∧ s.get [true, false, true, false] = G n ∧ s.get [false, true, true, false] = G ((0 : Nat) : Int)) (.exit 0) (fun s h => h = H.plus [.cells 1 n (gs (lf (m1F n) n))] ∧ s.get [false] = y1 ∧ s.get [true] = y2 ∧ s.get [true, true] = y6 ∧ s.get [false, false, false] = .slice H.size 0 n n) := by
  refine Tr.rounds (P := fun z => (fun s h => h = H.plus [.cells 1 n (gs (lf (m1F z) n))] ∧ s.get [false] = y1 ∧ s.get [true] = y2 ∧ s.get [true, true] = y6 ∧ s.get [false, false, false] = .slice H.size 0 n n ∧ s.get [true, false, true, false] = G n ∧ s.get [false, true, true, false] = G z)) (M := n) (fun z hz => ?_) ?_ (by simp) 0 (by omega)
  · refine Tr.w fun s1 H1 hp R kR => W.trim ?_
    obtain ⟨rfl, q⟩ := hp
    have es : (gs (lf (m1F z) n)).set z (G (-1)) = gs (lf (m1F (z + 1)) n) := by
      rw [gl_set _ _ _ _ hz]
      congr 1
      apply lf_ext
      intro x hx
      unfold m1F
      by_cases e : x = z
      · rw [if_pos e, if_pos (by omega)]
      · rw [if_neg e]
        by_cases c : x < z
        · rw [if_pos c, if_pos (by omega)]
        · rw [if_neg c, if_neg (by omega)]
    have lc := gl_len (m1F z) n
    generalize gs (lf (m1F (z + 1)) n) = c1 at *
    generalize gs (lf (m1F z) n) = c0 at *
    refine W.seq (W.chunk ?_)
    simp (disch := first|omega|exact zE rfl|exact zO|exact zL rfl) [c63_o4, zG, q]
    refine W.seq (W.chunk ?_)
    simp (disch := first|omega|exact zE rfl|exact zO|exact zL rfl) [zG, q]
    refine W.seq (W.block ?_)
    refine W.seq (W.chunk ?_)
    simp (disch := first|omega|exact zE rfl|exact zO|exact zL rfl) [c63_o5, zG, q]
    refine W.chunk ?_
    simp (disch := first|omega|exact zE rfl|exact zO|exact zL rfl) [c63_o6, zG, q, lc, es]
    refine W.chunk ?_
    simp (disch := first|omega|exact zE rfl|exact zO|exact zL rfl) [c63_o7, zG, q]
    exact kR _ _ (by simp [T.get, q])
  · refine Tr.w fun s1 H1 hp R kR => W.trim ?_
    obtain ⟨rfl, q⟩ := hp
    refine W.seq (W.chunk ?_)
    simp (disch := first|omega|exact zE rfl|exact zO|exact zL rfl) [c63_o4, zG, q]
    refine W.seq (W.chunk ?_)
    simp (disch := first|omega|exact zE rfl|exact zO|exact zL rfl) [zG, q]
    exact kR _ _ (by simp [T.get, q])
theorem cu_init {i : Nat} : ∀ {m}, i < m → cu (fun z => if z = i then 0 else -1) m + 1 = m
  | 0, h => by omega
  | m + 1, h => by
    show cu _ m + (if (if m = i then (0 : Int) else -1) = -1 then 1 else 0) + 1 = m + 1
    by_cases e : i = m
    · subst e
      rw [if_pos rfl, if_neg (by omega)]
      have : ∀ k, k ≤ i → cu (fun z => if z = i then (0 : Int) else -1) k = k := fun k => by
        induction k with
        | zero => intro _; rfl
        | succ k ih =>
          intro hk
          show cu _ k + (if (if k = i then (0 : Int) else -1) = -1 then 1 else 0) = k + 1
          rw [if_neg (show ¬ k = i by omega), if_pos rfl, ih (by omega)]
      rw [this i (Nat.le_refl _)]
    · rw [if_neg (show ¬ m = i from fun e' => e e'.symm), if_pos rfl]
      have := cu_init (i := i) (m := m) (by omega)
      omega
theorem BI.init {i : Nat} (hi : i < M.length) : BI M i (fun z => if z = i then 0 else -1) [i] 0 0 0 := by
  refine ⟨if_pos rfl, fun z hz hne => ?_, fun j z hj => ?_, ?_, fun g _ => ⟨0, rfl⟩, fun j u hj => absurd hj (by omega), fun u hu z hz => absurd hz (by omega), by omega⟩
  · by_cases c : z = i
    · subst c
      exact ⟨Mu.refl z, ⟨0, if_pos rfl, rfl⟩, by simp⟩
    · simp only [if_neg c] at hne; exact absurd rfl hne
  · have hj0 : j = 0 := by
      have := (List.getElem?_eq_some_iff.1 hj).1
      simpa using this
    subst hj0
    simp only [List.getElem?_cons_zero, Option.some.injEq] at hj
    subst hj
    exact ⟨hi, by simp, by simp⟩
  · have := cu_init hi
    rw [List.length_singleton]; omega
def DSp (M : List (List Int)) (i : Nat) (f : Nat → Int) : Prop := (∀ z, z < M.length → Mu M i z → ∃ d : Nat, f z = d ∧ Wk M d i z) ∧ (∀ z, z < M.length → ¬ Mu M i z → f z = -1)
theorem c63_ok (J : CallF) (k60 : K60 J) (k62 : K62 J) (hJ : ∀ a h, J 63 a h = none) (h : Heap) (hm : isMat M = true) {i : Nat} (hi : i < M.length) : ∃ v own, CallsTo tbl J 63 [.agg (matC M), G i] h (v, own, false) ∧ ∃ w f, v = .tup [w, G (perN M i)] ∧ DSp M i f ∧ perN M i ≤ 100 ∧ NG h (h.plus own) w (lf f M.length) := by
  refine Tr.fny (cf := c63) (e := .ret) (s := T.set (T.set .leaf [] (.agg (matC M))) [false] (G i)) (by decide) rfl (hJ _ _) rfl rfl (by simp) ?_
  have h8 := isMat_n hm
  have lm := matC_len M
  have et : (matC M).take 65 = matC M := List.take_of_length_le (by omega)
  have e0 : (matC M)[0]? = some (G M.length) := rfl
  have e0' := getI e0
  obtain ⟨w, own, k62, nc⟩ := k62 ((frameOf h).plus [.cells 0 65 (matC M)]) M hm
  obtain ⟨qc, rfl, gc⟩ := nc.l.sl (by intro e; have h0 : (gs (clsL M)).length = M.length := gl_len _ _; rw [e] at h0; simp at h0; omega)
  rw [show (gs (clsL M)).length = M.length from gl_len _ _] at k62 gc
  have cq := nc.x0 qc rfl
  rw [plus_size, fr_size] at cq
  have cq : h.size + 1 ≤ qc := cq
  have kA : Kp (fun _ => False) (frameOf h) (((frameOf h).plus [.cells 0 65 (matC M)]).plus own) := (Kp.plus _ _).trans nc.k
  have gm : (((frameOf h).plus [.cells 0 65 (matC M)]).plus own).get h.size = .cells 0 65 (matC M) := nc.k.at (plus_at0 _ _ _ _ (fr_size h)) (by simp) id
  have gm0 : ((frameOf h).plus [.cells 0 65 (matC M)]).get h.size = .cells 0 65 (matC M) := plus_at0 _ _ _ _ (fr_size h)
  clear nc
  generalize hHa : ((frameOf h).plus [.cells 0 65 (matC M)]).plus own = Ha at *
  have sA : qc < Ha.size := get_lt gc (by simp)
  have mk1 := fun H => mkSl_ok H 8 (G 0) M.length (M.length : Int) rfl (by omega)
  have rp := gl_rep M.length
  have ez : gs (lf (m1F 0) M.length) = gs (lf (fun _ => 0) M.length) := by congr 1
  have l0 := c63_l0_ok (y1 := G i) (y2 := .ptr h.size 0 65) (y6 := .slice qc 0 M.length M.length) (H := Ha) J h8.2
  rw [ez] at l0
  have es : (gs (lf (m1F M.length) M.length)).set i (G 0) = gs (lf (fun z => if z = i then 0 else -1) M.length) := by
    rw [gl_set _ _ _ _ hi]
    congr 1
    apply lf_ext
    intro x hx
    unfold m1F
    by_cases e : x = i
    · rw [if_pos e, if_pos e]
    · rw [if_neg e, if_neg e, if_pos hx]
  have lc := gl_len (m1F M.length) M.length
  have bs0 : BS h ((Ha.plus [.cells 1 M.length (gs (lf (fun z => if z = i then 0 else -1) M.length))]).plus [.cells 1 1 [G i]]) M qc Ha.size (fun z => if z = i then 0 else -1) (.slice (Ha.size + 1) 0 1 1) [i] :=
    ⟨(kA.trans (Kp.plus _ _)).trans (Kp.plus _ _), plus_keep _ (plus_keep _ gm (by simp)) (by simp), plus_keep _ (plus_keep _ gc (by simp)) (by simp), by omega, plus_keep _ (plus_at0 _ _ _ _ rfl) (by simp), by have := kA.size; rw [fr_size] at this; omega, by omega, Ha.size + 1, rfl, plus_at0 _ _ _ _ (by rw [plus_size]; rfl), by omega, by omega, by omega⟩
  have bi0 := BI.init hi
  have l2 := c63_k (qc := qc) (qo := Ha.size) J k60 h hm hi M.length 0 (by omega)
  have ex : ∃ f xq Q p, BI M i f Q 0 0 p ∧ BS h ((Ha.plus [.cells 1 M.length (gs (lf (fun z => if z = i then 0 else -1) M.length))]).plus [.cells 1 1 [G i]]) M qc Ha.size f xq Q ∧ AV.slice (Ha.size + 1) 0 1 1 = xq ∧ (0 : Int) = (p : Nat) := ⟨_, _, _, 0, bi0, bs0, rfl, rfl⟩
  have fs := fr_size h
  refine Tr.w fun s1 H1 hp R kR => ?_
  obtain ⟨rfl, rfl⟩ := hp
  have q : True := trivial
  clear bs0 bi0
  generalize gs (lf (m1F M.length) M.length) = c1 at *
  generalize gs (lf (fun z => if z = i then 0 else -1) M.length) = c2 at *
  generalize gs (lf (fun _ => 0) M.length) = cz at *
  refine W.seq (W.chunk ?_)
  simp (disch := first|omega|exact zE rfl|exact zO|exact zL rfl) [c63_o0, zG, q, lm, fs]
  refine W.seq (W.chunk ?_)
  simp (disch := first|omega|exact zE rfl|exact zO|exact zL rfl) [c63_o1, zG, q, fs, gm0, et, lm, k62, app_if, app_if', hHa]
  refine W.seq (W.chunk ?_)
  simp (disch := first|omega|exact zE rfl|exact zO|exact zL rfl) [-act, c63_o2, zG, q, act_move, act_mkSl, act_fa, act_load, act_bin, gm, e0, e0', lm, mk1, rp]
  refine W.assoc ?_
  refine W.seq (W.chunk ?_)
  simp (disch := first|omega|exact zE rfl|exact zO|exact zL rfl) [c63_o3, zG, q]
  refine W.seq (W.block ?_)
  refine W.use (l0) (by simp (disch := first|omega|exact zE rfl|exact zO|exact zL rfl) [zG, q]) fun s1 H1 hp => ?_
  obtain ⟨rfl, q⟩ := hp
  try simp only [zW, if_true]
  refine W.seq (W.chunk ?_)
  simp (disch := first|omega|exact zE rfl|exact zO|exact zL rfl) [c63_o8, zG, q, lc, es]
  refine W.seq (W.chunk ?_)
  simp (disch := first|omega|exact zE rfl|exact zO|exact zL rfl) [c63_o9, zG, q, plus_size]
  refine W.seq (W.chunk ?_)
  simp (disch := first|omega|exact zE rfl|exact zO|exact zL rfl) [c63_o10, zG, q]
  refine W.assoc ?_
  refine W.seq (W.chunk ?_)
  simp (disch := first|omega|exact zE rfl|exact zO|exact zL rfl) [c63_o11, zG, q]
  refine W.seq (W.block ?_)
  refine W.use (l2) (by simp (disch := first|omega|exact zE rfl|exact zO|exact zL rfl) [zG, q, ex]) fun s1 H1 hp => ?_
  obtain ⟨f, xq, Q, p, bi, bs, q⟩ := hp
  try simp only [zW, if_true]
  refine W.seq (W.chunk ?_)
  simp (disch := first|omega|exact zE rfl|exact zO|exact zL rfl) [c63_o24, zG, q]
  refine W.ret ?_
  try simp only [zW, if_true]
  obtain ⟨d1, d2, d3⟩ := bi.done hm hi
  have ng : NG (frameOf h) H1 (.slice Ha.size 0 M.length M.length) (lf f M.length) := ⟨bs.kf, fun q hq => by cases hq; have := kA.size; exact this, .inr ⟨Ha.size, by rw [gl_len], by rw [gl_len]; exact bs.go, by rw [bs.kf.N]; have := kA.size; rw [fr_size] at this; simpa [frameOf] using this⟩⟩
  exact kR _ _ ⟨[.slice Ha.size 0 M.length M.length, G (perN M i)], by simp [T.get, c63, evRess, evRes, q, d3], _, f, rfl, ⟨d1, d2⟩, by rw [d3]; exact bi.b, ng.fr1⟩
end
structure AD where
  M : List (List Int)
  i : Nat
def OkD (a : AD) : Prop := isMat a.M = true ∧ a.i < a.M.length
def PreD (a : AD) (args : List AV) (_ : Heap) : Prop := OkD a ∧ args = [.agg (matC a.M), G a.i]
def Post63 (a : AD) (h : Heap) (v : AV) (own : List AObj) : Prop := ∃ w f, v = .tup [w, G (perN a.M a.i)] ∧ DSp a.M a.i f ∧ perN a.M a.i ≤ 100 ∧ NG h (h.plus own) w (lf f a.M.length)
noncomputable def T26 : CallF := addK tbl T25 63 PreD Post63
theorem t26 : Sound Go.Proofs.Try.prog T26 := Sound.addK follows ok t25 (by decide) _ _
abbrev K63 (J : CallF) : Prop := ∀ (h : Heap) (a : AD), OkD a → ∃ v own, J 63 [.agg (matC a.M), G a.i] h = some (v, own, false) ∧ Post63 a h v own
theorem k60_25 : K60 T25 := fun a b h h1 h2 h3 h4 => by
  simp (disch := decide) only [T25, T24, T23, T22, T21, T20, T19, T18, T17, T16, T15, T14, T13, T12, T11, T10, T9, T8, T7, T6, T5, T4, T3, T2, T1, R21, R20, R19, R18, R17, R16, R15, R14, R13, R12, R11, R10, R9, R8, R7, R6, R5, R4, R3, R2, R1, addI_ne, addX_ne, addV_ne, addK_ne]
  exact k60 a b h h1 h2 h3 h4
theorem k62_25 : K62 T25 := fun h M hm => by
  simp (disch := decide) only [T25, T24, T23, T22, T21, T20, T19, T18, T17, T16, T15, T14, T13, T12, T11, T10, T9, T8, T7, addK_ne]
  exact k62 h M hm
theorem k63 : K63 T26 := fun h a ha => addK_some (Pre := PreD) (Post := Post63) (fun a args h hp => by
  obtain ⟨⟨hm, hi⟩, rfl⟩ := hp
  exact c63_ok T25 k60_25 k62_25 (fun _ _ => by simp (disch := decide) only [T25, T24, T23, T22, T21, T20, T19, T18, T17, T16, T15, T14, T13, T12, T11, T10, T9, T8, T7, T6, T5, T4, T3, T2, T1, R21, R20, R19, R18, R17, R16, R15, R14, R13, R12, R11, R10, R9, R8, R7, R6, R5, R4, R3, R2, R1, addI_ne, addX_ne, addV_ne, addK_ne]; rfl) h hm hi) a _ h ⟨ha, rfl⟩
section
variable {M : List (List Int)}
end
def Post32 (a : AM) (h : Heap) (v : AV) (own : List AObj) : Prop := (isMat a.M = false → v = .tup [.nils, G 2] ∧ own = []) ∧ (isMat a.M = true → ∃ w, v = .tup [w, G 0] ∧ NG h (h.plus own) w (pdL a.M))
noncomputable def T27 : CallF := addK tbl T26 32 PreM Post32
theorem t27 : Sound Go.Proofs.Try.prog T27 := Sound.addK follows ok t26 (by decide) _ _
end Go.Proofs.Ytjeemgaoonapgaa.Ev
set_option linter.unusedVariables false
set_option linter.unusedSimpArgs false
namespace Go.Proofs.Ytjeemgaoonapgaa.Ev
open Go Go.AEv
def st (L : List Nat) : List (AV × AV) := L.map fun (c : Nat) => (G c, AV.bool true)
def ins (c : Nat) (L : List Nat) : List Nat := if c ∈ L then L else L ++ [c]
theorem mem_ins {z c : Nat} {L : List Nat} : z ∈ ins c L ↔ z = c ∨ z ∈ L := by
  unfold ins
  split
  · rename_i h
    exact ⟨.inr, fun q => q.elim (fun e => e ▸ h) id⟩
  · simp [or_comm]
theorem mapA_at {h : Heap} {b : Nat} {es : List (AV × AV)} (e : h.get b = .map es) : mapA h (.map b) = some es := by
  unfold mapA; simp only [e]
theorem aveq_n (a b : Nat) : aveq (G a) (G b) = some (a == b) := by
  simp only [aveq, if_true]
  congr 1
  by_cases e : a = b
  · subst e; simp
  · rw [beq_eq_false_iff_ne.2 e, beq_eq_false_iff_ne.2 (by omega)]
theorem find_st (k : Nat) : ∀ L : List Nat, findA (G k) (st L) = some (if k ∈ L then some (.bool true) else none)
  | [] => rfl
  | c :: L => by
    show (match aveq (G k) (G c) with | some true => some (some (AV.bool true)) | some false => findA (G k) (st L) | none => none) = _
    rw [aveq_n]
    by_cases e : k = c
    · subst e
      simp
    · rw [beq_eq_false_iff_ne.2 e]
      simp only
      rw [find_st k L]
      simp [e]
theorem put_st (k : Nat) : ∀ L : List Nat, putMap (G k) (.bool true) (st L) = some (st (ins k L))
  | [] => rfl
  | c :: L => by
    show (match aveq (G k) (G c) with | some true => some ((G k, AV.bool true) :: st L) | some false => (putMap (G k) (.bool true) (st L)).map ((G c, AV.bool true) :: ·) | none => none) = _
    rw [aveq_n]
    by_cases e : k = c
    · subst e
      simp [ins, st]
    · rw [beq_eq_false_iff_ne.2 e]
      simp only
      rw [put_st k L]
      unfold ins
      by_cases m : k ∈ L
      · rw [if_pos m, if_pos (List.mem_cons_of_mem _ m)]; rfl
      · rw [if_neg m, if_neg (by simp [e, m])]; rfl
theorem mput_gen (h : Heap) (b : Nat) (es es' : List (AV × AV)) (h1 : h.N ≤ b) (hg : h.get b = .map es) : Eff.app (.mput b es') h = some (h.upd b (.map es')) := by
  have e1 : h.own[b - h.N]? = some (.map es) := by
    unfold Heap.get at hg
    rw [if_neg (by omega), List.getD_eq_getElem?_getD] at hg
    cases c : h.own[b - h.N]? with
    | none => rw [c] at hg; cases hg
    | some x => rw [c] at hg; exact congrArg some hg
  simp only [Eff.app]
  rw [if_neg (by omega), e1]
  simp only [Heap.setOwn, forceL_eq, Heap.upd]
end Go.Proofs.Ytjeemgaoonapgaa.Ev
set_option linter.unusedVariables false
set_option linter.unusedSimpArgs false
namespace Go.Proofs.Ytjeemgaoonapgaa.Ev
open Go Go.AEv
attribute [local simp] evFunc initS evOps_c evTrim_c evSkip_c evExit_c evRet_c evSeq_c evCond_c evBlock_c evDraw_c runOps_n runOps_c exec_n exec_g pure1_c act AOpd.ev T.get T.set T.put evBin evUn forceT_eq forceV_eq forceL_eq evRess evRes one keep runFP_n runFP_c app_none AV.flats AV.flat came_some List.getElem?_cons_zero List.getElem?_cons_succ beqT wrapI idxI tdivI tmodI decT decF ibT ibF inT inF evScope_c if_pos if_neg Cm_some thenW_n thenW_e thenW_r blkW_n blkW_e blkW_r goI kn putAt AV.cells fillA loadA takeA mk Eff.isAll Eff.isNone Eff.commutes Eff.spares okPair apart eqAgg fits LK.fits allEq aveq eqk mmA
section
variable {M : List (List Int)}
def LVS (M : List (List Int)) (x y : Nat) (L : List Nat) : Prop := ∀ c, c ∈ L ↔ ∃ u v, (u < x ∨ (u = x ∧ v < y)) ∧ 0 < ent M u v ∧ clN M u ≠ clN M v ∧ clN M u = c
theorem LVS.init : LVS M 0 0 [] := fun c => ⟨fun h => (by cases h), fun ⟨u, v, h, _⟩ => absurd h (by omega)⟩
theorem LVS.skip {x y : Nat} {L : List Nat} (l : LVS M x y L) (h : ¬ (0 < ent M x y ∧ clN M x ≠ clN M y)) : LVS M x (y + 1) L := fun c =>
  ⟨fun q => by
    obtain ⟨u, v, a, b⟩ := (l c).1 q
    exact ⟨u, v, by omega, b⟩, fun ⟨u, v, a, b1, b2, b3⟩ => by
    by_cases cc : u = x ∧ v = y
    · rw [cc.1, cc.2] at b1 b2; exact absurd ⟨b1, b2⟩ h
    · exact (l c).2 ⟨u, v, by omega, b1, b2, b3⟩⟩
theorem LVS.put {x y : Nat} {L : List Nat} (l : LVS M x y L) (h1 : 0 < ent M x y) (h2 : clN M x ≠ clN M y) : LVS M x (y + 1) (ins (clN M x) L) := fun c => by
  rw [mem_ins]
  constructor
  · rintro (rfl | q)
    · exact ⟨x, y, by omega, h1, h2, rfl⟩
    · obtain ⟨u, v, a, b⟩ := (l c).1 q
      exact ⟨u, v, by omega, b⟩
  · rintro ⟨u, v, a, b1, b2, b3⟩
    by_cases cc : u = x ∧ v = y
    · rw [cc.1] at b3; exact .inl b3.symm
    · exact .inr ((l c).2 ⟨u, v, by omega, b1, b2, b3⟩)
theorem LVS.nextx (hm : isMat M = true) {x : Nat} {L : List Nat} (l : LVS M x M.length L) : LVS M (x + 1) 0 L := fun c =>
  ⟨fun q => by
    obtain ⟨u, v, a, b⟩ := (l c).1 q
    exact ⟨u, v, by omega, b⟩, fun ⟨u, v, a, b1, b2, b3⟩ => (l c).2 ⟨u, v, by have := (ent_lt hm b1).2; omega, b1, b2, b3⟩⟩
def finP (M : List (List Int)) (i : Nat) : Prop := clN M i = i ∧ ∀ u v, 0 < ent M u v → clN M u = i → clN M v = i
theorem LVS.fin (hm : isMat M = true) {L : List Nat} (l : LVS M M.length 0 L) (i : Nat) : finP M i ↔ clN M i = i ∧ i ∉ L := by
  refine ⟨fun ⟨a, b⟩ => ⟨a, fun q => ?_⟩, fun ⟨a, b⟩ => ⟨a, fun u v e c => ?_⟩⟩
  · obtain ⟨u, v, _, b1, b2, b3⟩ := (l i).1 q
    exact b2 (b3.trans (b u v b1 b3).symm)
  · exact Classical.byContradiction fun n => b ((l i).2 ⟨u, v, .inl (ent_lt hm e).1, e, fun q => n (q ▸ c), c⟩)
open Classical in
noncomputable def fnL (M : List (List Int)) : Nat → List Int
  | 0 => []
  | k + 1 => if finP M k then fnL M k ++ [(k : Int)] else fnL M k
end
def Post49 (a : AM) (h : Heap) (v : AV) (own : List AObj) : Prop := (isMat a.M = false → v = .tup [.nils, G 2] ∧ own = []) ∧ (isMat a.M = true → ∃ w, v = .tup [w, G 0] ∧ NG h (h.plus own) w (fnL a.M a.M.length))
noncomputable def T28 : CallF := addK tbl T27 49 PreM Post49
theorem t28 : Sound Go.Proofs.Try.prog T28 := Sound.addK follows ok t27 (by decide) _ _
section
variable {M : List (List Int)}
def FI (M : List (List Int)) (i x y : Nat) (b : Bool) : Prop := b = true ↔ clN M i = i ∧ ∀ u v, (u < x ∨ (u = x ∧ v < y)) → 0 < ent M u v → clN M u = i → clN M v = i
theorem FI.no {i x y x' y' : Nat} (l : FI M i x y false) (h : x < x' ∨ (x = x' ∧ y ≤ y')) : FI M i x' y' false :=
  ⟨fun e => (by cases e), fun ⟨a, b⟩ => l.2 ⟨a, fun u v c => b u v (by omega)⟩⟩
theorem FI.keep {i x y : Nat} (l : FI M i x y true) (h : 0 < ent M x y → clN M x = i → clN M y = i) : FI M i x (y + 1) true :=
  ⟨fun e => ⟨(l.1 e).1, fun u v c => by
    by_cases cc : u = x ∧ v = y
    · rw [cc.1, cc.2]; exact h
    · exact (l.1 e).2 u v (by omega)⟩, fun _ => rfl⟩
theorem FI.nextx (hm : isMat M = true) {i x : Nat} {b : Bool} (l : FI M i x M.length b) : FI M i (x + 1) 0 b :=
  ⟨fun e => ⟨(l.1 e).1, fun u v c e2 => (l.1 e).2 u v (by have := (ent_lt hm e2).2; omega) e2⟩, fun ⟨a, c⟩ => l.2 ⟨a, fun u v d => c u v (by omega)⟩⟩
theorem FI.done (hm : isMat M = true) {i : Nat} {b : Bool} (l : FI M i M.length 0 b) : b = true ↔ finP M i :=
  l.trans ⟨fun ⟨a, c⟩ => ⟨a, fun u v e => c u v (.inl (ent_lt hm e).1) e⟩, fun ⟨a, c⟩ => ⟨a, fun u v _ => c u v⟩⟩
theorem FI.init {i : Nat} {b : Bool} (h : b = true ↔ clN M i = i) : FI M i 0 0 b := h.trans ⟨fun a => ⟨a, fun u v c => absurd c (by omega)⟩, fun a => a.1⟩
end
def Post52 (a : AM) (h : Heap) (v : AV) (own : List AObj) : Prop := NG h (h.plus own) v (fnL a.M a.M.length)
noncomputable def T29 : CallF := addK tbl T28 52 PreO Post52
theorem t29 : Sound Go.Proofs.Try.prog T29 := Sound.addK follows ok t28 (by decide) _ _
end Go.Proofs.Ytjeemgaoonapgaa.Ev
set_option linter.unusedVariables false
set_option linter.unusedSimpArgs false
namespace Go.Proofs.Ytjeemgaoonapgaa.Ev
open Go Go.AEv
theorem nodup_le {n : Nat} {P : List Nat} (nd : P.Nodup) (h : ∀ c ∈ P, c < n) : P.length ≤ n := by
  refine Nat.le_of_not_lt fun hl => ?_
  obtain ⟨i, j, h1, h2, h3⟩ := pigeon n (fun i => P.getD i 0) (fun i hi => by
    rw [List.getD_eq_getElem?_getD, List.getElem?_eq_getElem (by omega)]
    exact h _ (List.getElem_mem _))
  have hp := List.pairwise_iff_getElem.1 nd i j (by omega) (by omega) h1
  rw [List.getD_eq_getElem?_getD, List.getD_eq_getElem?_getD, List.getElem?_eq_getElem (by omega), List.getElem?_eq_getElem (by omega)] at h3
  exact hp h3
theorem nodup_snoc {P : List Nat} {c : Nat} (nd : P.Nodup) (h : c ∉ P) : (P ++ [c]).Nodup := by
  rw [List.nodup_append]
  refine ⟨nd, by simp, fun a ha b hb e => ?_⟩
  rw [List.mem_singleton] at hb
  subst hb; subst e
  exact h ha
section
variable {M : List (List Int)}
def rdy (M : List (List Int)) (P : List Nat) (c : Nat) : Prop := ∀ u v, 0 < ent M u v → clN M v = c → clN M u ≠ c → clN M u ∈ P
def cand (M : List (List Int)) (P : List Nat) (c : Nat) : Prop := clN M c = c ∧ c ∉ P ∧ rdy M P c
open Classical in
noncomputable def nxB (M : List (List Int)) (P : List Nat) : List Nat := if h : ∃ c, c < M.length ∧ cand M P c ∧ ∀ d, d < c → ¬ cand M P d then P ++ [Classical.choose h] else P
noncomputable def sqB (M : List (List Int)) : Nat → List Nat
  | 0 => []
  | k + 1 => nxB M (sqB M k)
theorem nxB_t {P : List Nat} {c : Nat} (h1 : c < M.length) (h2 : cand M P c) (h3 : ∀ d, d < c → ¬ cand M P d) : nxB M P = P ++ [c] := by
  have h : ∃ c, c < M.length ∧ cand M P c ∧ ∀ d, d < c → ¬ cand M P d := ⟨c, h1, h2, h3⟩
  unfold nxB
  rw [dif_pos h]
  obtain ⟨_, e2, e3⟩ := Classical.choose_spec h
  have : Classical.choose h = c := by
    rcases Nat.lt_trichotomy (Classical.choose h) c with l | l | l
    · exact absurd e2 (h3 _ l)
    · exact l
    · exact absurd h2 (e3 _ l)
  rw [this]
theorem nxB_f {P : List Nat} (h : ∀ c, c < M.length → ¬ cand M P c) : nxB M P = P := by
  unfold nxB
  exact dif_neg fun ⟨c, h1, h2, _⟩ => h c h1 h2
structure PB (M : List (List Int)) (P : List Nat) : Prop where
  e : P = sqB M P.length
  d : P.Nodup
  l : ∀ c ∈ P, c < M.length ∧ clN M c = c
theorem PB.nil : PB M [] := ⟨rfl, List.Pairwise.nil, fun c h => (by cases h)⟩
theorem PB.push {P : List Nat} (p : PB M P) {c : Nat} (h1 : c < M.length) (h2 : cand M P c) (h3 : ∀ d, d < c → ¬ cand M P d) : PB M (P ++ [c]) :=
  ⟨by
    rw [List.length_append]
    show P ++ [c] = nxB M (sqB M P.length)
    rw [← p.e, nxB_t h1 h2 h3], nodup_snoc p.d h2.2.1, fun d hd => by
    rcases List.mem_append.1 hd with q | q
    · exact p.l d q
    · rw [List.mem_singleton] at q; subst q; exact ⟨h1, h2.1⟩⟩
theorem PB.len {P : List Nat} (p : PB M P) : P.length ≤ M.length := nodup_le p.d fun c hc => (p.l c hc).1
noncomputable def seqB (M : List (List Int)) : List Nat := sqB M M.length
theorem PB.done {P : List Nat} (p : PB M P) (h : ∀ c, c < M.length → ¬ cand M P c) : P = seqB M := by
  have : ∀ d, sqB M (P.length + d) = P := fun d => by
    induction d with
    | zero => exact p.e.symm
    | succ d ih =>
      show nxB M (sqB M (P.length + d)) = P
      rw [ih, nxB_f h]
  have h2 := this (M.length - P.length)
  rw [show P.length + (M.length - P.length) = M.length by have := p.len; omega] at h2
  exact h2.symm
def cmL (M : List (List Int)) (c : Nat) : Nat → List Int
  | 0 => []
  | k + 1 => if clN M k = c then cmL M c k ++ [(k : Int)] else cmL M c k
theorem cmL_t {c k : Nat} (h : clN M k = c) : cmL M c (k + 1) = cmL M c k ++ [(k : Int)] := if_pos h
theorem cmL_f {c k : Nat} (h : ¬ clN M k = c) : cmL M c (k + 1) = cmL M c k := if_neg h
theorem cmL_pos {c k : Nat} (h : clN M c = c) : c < k → cmL M c k ≠ [] := by
  induction k with
  | zero => intro q; omega
  | succ k ih =>
    intro q
    by_cases e : clN M k = c
    · rw [cmL_t e]; simp
    · rw [cmL_f e]
      exact ih (by
        rcases Nat.lt_or_ge c k with a | a
        · exact a
        · have : c = k := by omega
          subst this; exact absurd h e)
def bkC (M : List (List Int)) (P : List Nat) : List (List AV) := P.map fun c => gs (cmL M c M.length)
theorem bkC_s (P : List Nat) (c : Nat) : bkC M (P ++ [c]) = bkC M P ++ [gs (cmL M c M.length)] := by simp [bkC]
theorem bkC_len (P : List Nat) : (bkC M P).length = P.length := by simp [bkC]
structure PN (M : List (List Int)) (P L : List Nat) : Prop where
  d : L.Nodup
  m : ∀ u, u ∈ L ↔ u < M.length ∧ clN M u ∈ P
theorem PN.rdy (hm : isMat M = true) {P L : List Nat} (p : PN M P L) {c : Nat} : rdy M P c ↔ ∀ u v, 0 < ent M u v → clN M v = c → clN M u ≠ c → u ∈ L :=
  ⟨fun h u v e a b => (p.m u).2 ⟨(ent_lt hm e).1, h u v e a b⟩, fun h u v e a b => ((p.m u).1 (h u v e a b)).2⟩
theorem PN.lt {P L : List Nat} (p : PN M P L) : L.length ≤ M.length := nodup_le p.d fun c hc => ((p.m c).1 hc).1
structure PK (M : List (List Int)) (P : List Nat) (c k : Nat) (L : List Nat) : Prop where
  d : L.Nodup
  m : ∀ u, u ∈ L ↔ u < M.length ∧ (clN M u ∈ P ∨ (clN M u = c ∧ u < k))
theorem PN.start {P L : List Nat} (p : PN M P L) (c : Nat) : PK M P c 0 L := ⟨p.d, fun u => by rw [p.m u]; simp⟩
theorem PK.skip {P L : List Nat} {c k : Nat} (p : PK M P c k L) (h : ¬ clN M k = c) : PK M P c (k + 1) L := ⟨p.d, fun u => by
  rw [p.m u]
  have : clN M u = c ∧ u < k + 1 ↔ clN M u = c ∧ u < k := ⟨fun ⟨a, b⟩ => ⟨a, by
    rcases Nat.lt_or_ge u k with x | x
    · exact x
    · have : u = k := by omega
      subst this; exact absurd a h⟩, fun ⟨a, b⟩ => ⟨a, by omega⟩⟩
  rw [this]⟩
theorem PK.take {P L : List Nat} {c k : Nat} (p : PK M P c k L) (hk : k < M.length) (h : clN M k = c) (hc : c ∉ P) : PK M P c (k + 1) (L ++ [k]) ∧ ins k L = L ++ [k] := by
  have hn : k ∉ L := fun q => by
    rcases ((p.m k).1 q).2 with a | ⟨_, a⟩
    · rw [h] at a; exact hc a
    · omega
  refine ⟨⟨nodup_snoc p.d hn, fun u => ?_⟩, if_neg hn⟩
  rw [List.mem_append, List.mem_singleton, p.m u]
  constructor
  · rintro (⟨a, b | ⟨b1, b2⟩⟩ | rfl)
    · exact ⟨a, .inl b⟩
    · exact ⟨a, .inr ⟨b1, by omega⟩⟩
    · exact ⟨hk, .inr ⟨h, by omega⟩⟩
  · rintro ⟨a, b | ⟨b1, b2⟩⟩
    · exact .inl ⟨a, .inl b⟩
    · by_cases e : u = k
      · exact .inr e
      · exact .inl ⟨a, .inr ⟨b1, by omega⟩⟩
theorem PK.done {P L : List Nat} {c : Nat} (p : PK M P c M.length L) : PN M (P ++ [c]) L := ⟨p.d, fun u => by
  rw [p.m u, List.mem_append, List.mem_singleton]
  exact ⟨fun ⟨a, b⟩ => ⟨a, b.imp id fun x => x.1⟩, fun ⟨a, b⟩ => ⟨a, b.imp id fun x => ⟨x, a⟩⟩⟩⟩
end
end Go.Proofs.Ytjeemgaoonapgaa.Ev
set_option linter.unusedVariables false
set_option linter.unusedSimpArgs false
namespace Go.Proofs.Ytjeemgaoonapgaa.Ev
open Go Go.AEv
attribute [local simp] evFunc initS evOps_c evTrim_c evSkip_c evExit_c evRet_c evSeq_c evCond_c evBlock_c evDraw_c runOps_n runOps_c exec_n exec_g pure1_c act AOpd.ev T.get T.set T.put evBin evUn forceT_eq forceV_eq forceL_eq evRess evRes one keep runFP_n runFP_c app_none AV.flats AV.flat came_some List.getElem?_cons_zero List.getElem?_cons_succ beqT wrapI idxI tdivI tmodI decT decF ibT ibF inT inF evScope_c if_pos if_neg Cm_some thenW_n thenW_e thenW_r blkW_n blkW_e blkW_r goI kn putAt AV.cells fillA loadA takeA mk Eff.isAll Eff.isNone Eff.commutes Eff.spares okPair apart eqAgg fits LK.fits allEq aveq eqk mmA
section
variable {M : List (List Int)}
def nb (M : List (List Int)) (L : List Nat) (c x y : Nat) : Prop := 0 < ent M x y → clN M y = c → clN M x ≠ c → x ∈ L
def rdQ (M : List (List Int)) (L : List Nat) (c : Nat) : Prop := ∀ u v, 0 < ent M u v → clN M v = c → clN M u ≠ c → u ∈ L
end
structure A75 where
  M : List (List Int)
  qc : Nat
  qp : Nat
  c : Nat
  L : List Nat
def Ok75 (a : A75) (h : Heap) : Prop := isMat a.M = true ∧ h.get a.qc = .cells 1 a.M.length (gs (clsL a.M)) ∧ h.get a.qp = .map (st a.L)
def Pre75 (a : A75) (args : List AV) (h : Heap) : Prop := Ok75 a h ∧ args = [.agg (matC a.M), .slice a.qc 0 a.M.length a.M.length, .map a.qp, G a.c]
open Classical in
def Post75 (a : A75) (h : Heap) (v : AV) (own : List AObj) : Prop := v = .bool (decide (rdQ a.M a.L a.c)) ∧ own = []
noncomputable def T30 : CallF := addK tbl T29 75 Pre75 Post75
theorem t30 : Sound Go.Proofs.Try.prog T30 := Sound.addK follows ok t29 (by decide) _ _
theorem Kp.both {A B : Heap} {b : Nat} {X : AObj} (k : Kp (fun _ => False) A B) (hN : A.N ≤ b) (hb : b < A.size) : Kp (fun _ => False) (A.upd b X) (B.upd b X) := by
  have hs := k.size
  have hNB : B.N ≤ b := by rw [k.N]; exact hN
  refine ⟨k.lo, k.N, by rw [upd_size, upd_size]; exact hs, fun i hi hm => ?_⟩
  rw [upd_size] at hi
  by_cases e : i = b
  · subst e
    rw [upd_same _ _ _ hN hb, upd_same _ _ _ hNB (by omega)]
  · rw [upd_ne _ _ _ _ hN (fun q => e q.symm), upd_ne _ _ _ _ hNB (fun q => e q.symm)]
    exact k.get i hi hm
theorem NG.both {A B : Heap} {b : Nat} {X : AObj} {x : AV} {L : List Int} (t : NG A B x L) (hN : A.N ≤ b) (hb : b < A.size) : NG (A.upd b X) (B.upd b X) x L :=
  ⟨Kp.both t.k hN hb, fun q hq => by rw [upd_size]; exact t.x0 q hq, t.l.kp (Kp.upd (M := fun i => i = b) B b X (by rw [t.k.N]; exact hN) rfl) (fun q hq e => by have := t.x0 q hq; omega)⟩
section
variable {M : List (List Int)}
structure S48 (Hb h : Heap) (M : List (List Int)) (P : List Nat) (c k : Nat) (x8 x10 : AV) : Prop where
  e : ∃ Hr L, TB Hb Hr x8 (bkC M P) ∧ Hr.get Hb.size = .map (st L) ∧ PK M P c k L ∧ NG Hr h x10 (cmL M c k)
structure T48 (Hb h : Heap) (M : List (List Int)) (P L : List Nat) (x8 : AV) : Prop where
  tb : TB Hb h x8 (bkC M P)
  gp : h.get Hb.size = .map (st L)
  pn : PN M P L
theorem S48.init {Hb h : Heap} {P L : List Nat} {x8 : AV} (t : T48 Hb h M P L x8) (c : Nat) : S48 Hb h M P c 0 x8 .nils := ⟨h, L, t.tb, t.gp, t.pn.start c, NG.nil h⟩
theorem S48.done {Hb h : Heap} {P : List Nat} {c : Nat} {x8 x10 : AV} (hc : clN M c = c) (hcn : c < M.length) (hl : P.length ≤ 8) (t : S48 Hb h M P c M.length x8 x10) :
    ∃ b n, x10 = .slice b 0 n n ∧ ∃ L x1 e h2, appA (h.plus [.cells 1 1 [.slice b 0 n n]]) h.size none 1 24 1 [.slice b 0 n n] x8 = some (x1, e) ∧ Eff.app e (h.plus [.cells 1 1 [.slice b 0 n n]]) = some h2 ∧ T48 Hb h2 M (P ++ [c]) L x1 ∧ AV.cells x1 = some [x1] := by
  obtain ⟨Hr, L, tb, gp, pk, ng⟩ := t
  obtain ⟨b, rfl, gb⟩ := ng.l.sl (by
    intro e
    have : cmL M c M.length = [] := by simpa using e
    exact cmL_pos hc hcn this)
  have hb := ng.x0 b rfl
  have tb2 := tb.kp ng.k
  have hx : blk x8 ≠ some b := fun e => by
    obtain ⟨rs, lv, _⟩ := tb.r
    have := lv.lt e
    omega
  obtain ⟨x1, e, h2, q1, q2, q3, q4⟩ := tb2.app h.size gb ⟨hx, by have := tb.k.size; omega⟩ (by rw [bkC_len]; omega)
  rw [← bkC_s] at q3
  have gp1 := ng.k.at gp (by simp) id
  have gp2 : h2.get Hb.size = .map (st L) := by
    obtain ⟨rs, lv, hrl, _⟩ := tb2.r
    rw [bkC_len] at hrl
    obtain ⟨x1', e', h2', a1, a2, _, k3, _⟩ := app_v (h.plus [.cells 1 1 [.slice b 0 (gs (cmL M c M.length)).length (gs (cmL M c M.length)).length]]) h.size 24 (.slice b 0 (gs (cmL M c M.length)).length (gs (cmL M c M.length)).length) (lv.kp (Kp.plus (M := fun _ => False) h _) (fun _ _ => id)) (by omega)
    rw [q1] at a1
    cases a1
    rw [q2] at a2
    cases a2
    refine k3.at (plus_keep _ gp1 (by simp)) (by simp) (fun q => ?_)
    rcases lv with ⟨rfl, _⟩ | ⟨b', rfl, g', _⟩
    · cases q
    · cases q; rw [gp1] at g'; cases g'
  exact ⟨b, _, rfl, L, x1, e, h2, q1, q2, ⟨q3, gp2, pk.done⟩, q4⟩
theorem PN.cand (hm : isMat M = true) {P L : List Nat} (p : PN M P L) {c : Nat} (hc : c < M.length) : cand M P c ↔ clN M c = c ∧ c ∉ L ∧ rdQ M L c := by
  have : clN M c = c → (c ∈ L ↔ c ∈ P) := fun e => by rw [p.m c, e]; exact ⟨fun x => x.2, fun x => ⟨hc, x⟩⟩
  constructor
  · rintro ⟨a, b, r⟩
    exact ⟨a, fun x => b ((this a).1 x), (PN.rdy hm p).1 r⟩
  · rintro ⟨a, b, r⟩
    exact ⟨a, fun x => b ((this a).2 x), (PN.rdy hm p).2 r⟩
theorem TB.fr1 {h h' : Heap} {x y : AV} {L : List (List AV)} (t : TB (frameOf h) h' x L) : TB h (h.plus (if (one [x, y]).flat then [] else h'.own)) x L := by
  split
  · rename_i hf
    obtain ⟨rs, lv, hl, hr⟩ := t.r
    rcases lv with ⟨rfl, rfl⟩ | ⟨b, rfl, g, n⟩
    · have : L = [] := List.eq_nil_of_length_eq_zero hl.symm
      subst this
      exact (TB.nil h).kp (Kp.plus _ _)
    · exact absurd hf (by simp [one, AV.flat, AV.flats])
  · exact t.fr
end
def Post48 (a : AM) (h : Heap) (v : AV) (own : List AObj) : Prop := (isMat a.M = false → v = .tup [.nils, G 2] ∧ own = []) ∧ (isMat a.M = true → ∃ w, v = .tup [w, G 0] ∧ TB h (h.plus own) w (bkC a.M (seqB a.M)))
noncomputable def T31 : CallF := addK tbl T30 48 PreM Post48
theorem t31 : Sound Go.Proofs.Try.prog T31 := Sound.addK follows ok t30 (by decide) _ _
end Go.Proofs.Ytjeemgaoonapgaa.Ev
set_option linter.unusedVariables false
set_option linter.unusedSimpArgs false
namespace Go.Proofs.Ytjeemgaoonapgaa.Ev
open Go Go.AEv
open Classical in
noncomputable def ct (p : Nat → Prop) : Nat → Nat
  | 0 => 0
  | k + 1 => ct p k + (if p k then 1 else 0)
theorem ct_le {p q : Nat → Prop} : ∀ {k}, (∀ z, z < k → p z → q z) → ct p k ≤ ct q k
  | 0, _ => Nat.le_refl _
  | k + 1, h => by
    have a := ct_le (k := k) fun z hz => h z (by omega)
    unfold ct
    by_cases c : p k
    · rw [if_pos c, if_pos (h k (by omega) c)]; omega
    · rw [if_neg c]; omega
theorem ct_lt {p q : Nat → Prop} : ∀ {k}, (∀ z, z < k → p z → q z) → ∀ {w}, w < k → q w → ¬ p w → ct p k < ct q k
  | 0, _, w, hw, _, _ => by omega
  | k + 1, h, w, hw, a, b => by
    unfold ct
    by_cases e : w = k
    · subst e
      have := ct_le (k := w) fun z hz => h z (by omega)
      rw [if_pos a, if_neg b]; omega
    · have := ct_lt (k := k) (fun z hz => h z (by omega)) (show w < k by omega) a b
      by_cases c : p k
      · rw [if_pos c, if_pos (h k (by omega) c)]; omega
      · rw [if_neg c]; omega
theorem ct_all {p : Nat → Prop} : ∀ {k}, (∀ z, z < k → p z) → ct p k = k
  | 0, _ => rfl
  | k + 1, h => by
    unfold ct
    rw [if_pos (h k (by omega)), ct_all fun z hz => h z (by omega)]
theorem leastN {p : Nat → Prop} (n : Nat) : p n → ∃ m, m ≤ n ∧ p m ∧ ∀ k, k < m → ¬ p k := by
  induction n using Nat.strongRecOn with
  | _ n ih =>
    intro h
    by_cases c : ∃ k, k < n ∧ p k
    · obtain ⟨k, hk, pk⟩ := c
      obtain ⟨m, a, b⟩ := ih k hk pk
      exact ⟨m, by omega, b⟩
    · exact ⟨n, Nat.le_refl _, h, fun k hk pk => c ⟨k, hk, pk⟩⟩
theorem nd_inj {P : List Nat} (nd : P.Nodup) {i j c : Nat} (h1 : P[i]? = some c) (h2 : P[j]? = some c) : i = j := by
  obtain ⟨l1, e1⟩ := List.getElem?_eq_some_iff.1 h1
  obtain ⟨l2, e2⟩ := List.getElem?_eq_some_iff.1 h2
  rcases Nat.lt_trichotomy i j with l | l | l
  · exact absurd (e1.trans e2.symm) (List.pairwise_iff_getElem.1 nd i j l1 l2 l)
  · exact l
  · exact absurd (e2.trans e1.symm) (List.pairwise_iff_getElem.1 nd j i l2 l1 l)
section
variable {M : List (List Int)}
structure PO (M : List (List Int)) (P : List Nat) : Prop where
  b : PB M P
  o : ∀ k c, P[k]? = some c → rdy M (P.take k) c
theorem PO.push {P : List Nat} (p : PO M P) {c : Nat} (h1 : c < M.length) (h2 : cand M P c) (h3 : ∀ d, d < c → ¬ cand M P d) : PO M (P ++ [c]) :=
  ⟨p.b.push h1 h2 h3, fun k d e => by
    by_cases l : k < P.length
    · rw [List.getElem?_append_left l] at e
      rw [List.take_append_of_le_length (by omega)]
      exact p.o k d e
    · have : k = P.length := by have := (List.getElem?_eq_some_iff.1 e).1; simp at this; omega
      subst this
      rw [List.getElem?_append_right (Nat.le_refl _), Nat.sub_self] at e
      cases e
      rw [List.take_left']
      · exact h2.2.2
      · rfl⟩
theorem PO.sq : ∀ k, PO M (sqB M k) ∧ ((sqB M k).length = k ∨ ∀ c, c < M.length → ¬ cand M (sqB M k) c)
  | 0 => ⟨⟨PB.nil, fun k c e => by simp [sqB] at e⟩, .inl rfl⟩
  | k + 1 => by
    obtain ⟨p, q⟩ := PO.sq k
    by_cases c : ∃ c, c < M.length ∧ cand M (sqB M k) c
    · obtain ⟨c0, hc, hd⟩ := c
      obtain ⟨m, a, b, e⟩ := leastN (p := cand M (sqB M k)) c0 hd
      have e2 : sqB M (k + 1) = sqB M k ++ [m] := nxB_t (by omega) b e
      rw [e2]
      refine ⟨p.push (by omega) b e, .inl ?_⟩
      rcases q with q | q
      · simp [q]
      · exact absurd hd (q c0 hc)
    · have h : ∀ c, c < M.length → ¬ cand M (sqB M k) c := fun d hd x => c ⟨d, hd, x⟩
      have e2 : sqB M (k + 1) = sqB M k := nxB_f h
      rw [e2]
      exact ⟨p, .inr h⟩
theorem sq_ok : PO M (seqB M) ∧ ∀ c, c < M.length → ¬ cand M (seqB M) c := by
  obtain ⟨p, q⟩ := PO.sq (M := M) M.length
  refine ⟨p, fun c hc => ?_⟩
  rcases q with q | q
  · intro hd
    have := nodup_le (n := M.length) (nodup_snoc p.b.d hd.2.1) (fun d hd => by
      rcases List.mem_append.1 hd with y | y
      · exact (p.b.l d y).1
      · rw [List.mem_singleton] at y; omega)
    rw [List.length_append, q, List.length_singleton] at this
    omega
  · exact q c hc
theorem clN_id (hm : isMat M = true) {u : Nat} (hu : u < M.length) : clN M (clN M u) = clN M u := by
  obtain ⟨a, b, _⟩ := clN_ok hm hu
  exact ((clN_eq hm hu (by omega)).2 b).symm
theorem cm_at {c : Nat} : ∀ {k i : Nat} {z : Int}, (cmL M c k)[i]? = some z → ∃ u : Nat, u < k ∧ z = u ∧ clN M u = c
  | 0, i, z, h => by simp [cmL] at h
  | k + 1, i, z, h => by
    by_cases e : clN M k = c
    · rw [cmL_t e] at h
      by_cases l : i < (cmL M c k).length
      · rw [List.getElem?_append_left l] at h
        obtain ⟨u, a, b⟩ := cm_at h
        exact ⟨u, by omega, b⟩
      · rw [List.getElem?_append_right (by omega)] at h
        have : i - (cmL M c k).length = 0 := by have := (List.getElem?_eq_some_iff.1 h).1; simp at this; omega
        rw [this] at h
        cases h
        exact ⟨k, by omega, rfl, e⟩
    · rw [cmL_f e] at h
      obtain ⟨u, a, b⟩ := cm_at h
      exact ⟨u, by omega, b⟩
theorem cm_mem {c z : Nat} (h : clN M z = c) : ∀ {k}, z < k → ∃ i : Nat, (cmL M c k)[i]? = some (z : Int)
  | 0, hk => by omega
  | k + 1, hk => by
    by_cases e : z = k
    · subst e
      rw [cmL_t h]
      exact ⟨(cmL M c z).length, by rw [List.getElem?_append_right (Nat.le_refl _), Nat.sub_self]; rfl⟩
    · obtain ⟨i, hi⟩ := cm_mem h (k := k) (by omega)
      by_cases f : clN M k = c
      · rw [cmL_t f]
        exact ⟨i, by rw [List.getElem?_append_left (List.getElem?_eq_some_iff.1 hi).1]; exact hi⟩
      · rw [cmL_f f]; exact ⟨i, hi⟩
structure AtI (M : List (List Int)) (k i : Nat) (f : Nat → Int) : Prop where
  a : ∀ z j, z < M.length → (seqB M)[j]? = some (clN M z) → j < k → f z = j
  b : ∀ c (i' z : Nat), (seqB M)[k]? = some c → i' < i → (cmL M c M.length)[i']? = some (z : Int) → f z = k
theorem AtI.init {f : Nat → Int} : AtI M 0 0 f := ⟨fun z j _ _ h => by omega, fun c i z _ h => by omega⟩
theorem AtI.set {k i c z : Nat} {f : Nat → Int} (t : AtI M k i f) (hc : (seqB M)[k]? = some c) (hz : (cmL M c M.length)[i]? = some (z : Int)) : AtI M k (i + 1) (fun x => if x = z then (k : Int) else f x) := by
  have nd := (sq_ok (M := M)).1.b.d
  obtain ⟨u, _, e, e2⟩ := cm_at hz
  have : u = z := by omega
  subst this
  refine ⟨fun x j hx hj hk => ?_, fun c' i' x hc' hi hx => ?_⟩
  · by_cases q : x = u
    · subst q
      rw [e2] at hj
      have := nd_inj nd hj hc; omega
    · rw [if_neg q]; exact t.a x j hx hj hk
  · by_cases q : x = u
    · rw [if_pos q]
    · rw [if_neg q]
      refine t.b c' i' x hc' ?_ hx
      rcases Nat.lt_or_ge i' i with a | a
      · exact a
      · have : i' = i := by omega
        subst this
        rw [hc] at hc'; cases hc'
        rw [hz] at hx
        have : (u : Int) = x := Option.some.inj hx
        omega
theorem AtI.next {k c : Nat} {f : Nat → Int} (t : AtI M k (cmL M c M.length).length f) (hc : (seqB M)[k]? = some c) : AtI M (k + 1) 0 f := by
  refine ⟨fun z j hz hj hk => ?_, fun c' i' z _ h => by omega⟩
  by_cases e : j = k
  · subst e
    rw [hc] at hj
    have e2 : clN M z = c := (Option.some.inj hj).symm
    obtain ⟨i, hi⟩ := cm_mem e2 hz
    exact t.b c i z hc (List.getElem?_eq_some_iff.1 hi).1 hi
  · exact t.a z j hz hj (by omega)
end
end Go.Proofs.Ytjeemgaoonapgaa.Ev
set_option linter.unusedVariables false
set_option linter.unusedSimpArgs false
namespace Go.Proofs.Ytjeemgaoonapgaa.Ev
open Go Go.AEv
attribute [local simp] evFunc initS evOps_c evTrim_c evSkip_c evExit_c evRet_c evSeq_c evCond_c evBlock_c evDraw_c runOps_n runOps_c exec_n exec_g pure1_c act AOpd.ev T.get T.set T.put evBin evUn forceT_eq forceV_eq forceL_eq evRess evRes one keep runFP_n runFP_c app_none AV.flats AV.flat came_some List.getElem?_cons_zero List.getElem?_cons_succ beqT wrapI idxI tdivI tmodI decT decF ibT ibF inT inF evScope_c if_pos if_neg Cm_some thenW_n thenW_e thenW_r blkW_n blkW_e blkW_r goI kn putAt AV.cells fillA loadA takeA mk Eff.isAll Eff.isNone Eff.commutes Eff.spares okPair apart eqAgg fits LK.fits allEq aveq eqk mmA
theorem TB.both {A B : Heap} {b : Nat} {X : AObj} {x : AV} {R : List (List AV)} (t : TB A B x R) (hN : A.N ≤ b) (hb : b < A.size) : TB (A.upd b X) (B.upd b X) x R := by
  have hNB : B.N ≤ b := by rw [t.k.N]; exact hN
  obtain ⟨rs, lv, hl, hr⟩ := t.r
  refine ⟨Kp.both t.k hN hb, fun q hq => by rw [upd_size]; exact t.x0 q hq, rs, lv.kp (Kp.upd (M := fun i => i = b) B b X hNB rfl) (fun q hq e => by have := t.x0 q hq; omega), hl, fun i r hi => ?_⟩
  obtain ⟨cs, b', h1, h2, h3, h4, h5⟩ := hr i r hi
  refine ⟨cs, b', h1, h2, ?_, h4, by rw [upd_size]; exact h5⟩
  rw [upd_ne _ _ _ _ hNB (by omega)]
  exact h3
section
variable {M : List (List Int)}
def FB (M : List (List Int)) (P : List Nat) (i x y : Nat) (b : Bool) : Prop := b = true ↔ clN M i = i ∧ i ∉ P ∧ ∀ u v, (u < x ∨ (u = x ∧ v < y)) → 0 < ent M u v → clN M v = i → clN M u ≠ i → clN M u ∈ P
theorem FB.no {P : List Nat} {i x y x' y' : Nat} (l : FB M P i x y false) (h : x < x' ∨ (x = x' ∧ y ≤ y')) : FB M P i x' y' false :=
  ⟨fun e => (by cases e), fun ⟨a, a2, b⟩ => l.2 ⟨a, a2, fun u v c => b u v (by omega)⟩⟩
theorem FB.keep {P : List Nat} {i x y : Nat} (l : FB M P i x y true) (h : 0 < ent M x y → clN M y = i → clN M x ≠ i → clN M x ∈ P) : FB M P i x (y + 1) true :=
  ⟨fun e => ⟨(l.1 e).1, (l.1 e).2.1, fun u v c => by
    by_cases cc : u = x ∧ v = y
    · rw [cc.1, cc.2]; exact h
    · exact (l.1 e).2.2 u v (by omega)⟩, fun _ => rfl⟩
theorem FB.nextx (hm : isMat M = true) {P : List Nat} {i x : Nat} {b : Bool} (l : FB M P i x M.length b) : FB M P i (x + 1) 0 b :=
  ⟨fun e => ⟨(l.1 e).1, (l.1 e).2.1, fun u v c e2 => (l.1 e).2.2 u v (by have := (ent_lt hm e2).2; omega) e2⟩, fun ⟨a, a2, c⟩ => l.2 ⟨a, a2, fun u v d => c u v (by omega)⟩⟩
theorem FB.done (hm : isMat M = true) {P : List Nat} {i : Nat} {b : Bool} (l : FB M P i M.length 0 b) : b = true ↔ cand M P i :=
  l.trans ⟨fun ⟨a, a2, c⟩ => ⟨a, a2, fun u v e => c u v (.inl (ent_lt hm e).1) e⟩, fun ⟨a, a2, c⟩ => ⟨a, a2, fun u v _ => c u v⟩⟩
theorem FB.init {P : List Nat} {i : Nat} {b : Bool} (h : b = true ↔ clN M i = i ∧ i ∉ P) : FB M P i 0 0 b := h.trans ⟨fun a => ⟨a.1, a.2, fun u v c => absurd c (by omega)⟩, fun a => ⟨a.1, a.2.1⟩⟩
def plC (P : List Nat) (n : Nat) : List AV := bls (fun z => decide (z ∈ P)) n
structure S53 (Hb h : Heap) (M : List (List Int)) (P : List Nat) (x6 : AV) : Prop where
  e : ∃ A, Kp (fun _ => False) Hb A ∧ Hb.size < A.size ∧ A.get Hb.size = .cells 1 M.length (plC P M.length) ∧ TB A h x6 (bkC M P)
theorem plC_set (P : List Nat) {n c : Nat} (hc : c < n) : (plC P n).set c (.bool true) = plC (P ++ [c]) n := by
  unfold plC
  rw [bls_set _ _ _ _ hc]
  apply bls_ext
  intro z hz
  by_cases e : z = c
  · subst e; simp
  · simp [e]
theorem S53.gp {Hb h : Heap} {P : List Nat} {x6 : AV} (t : S53 Hb h M P x6) : h.get Hb.size = .cells 1 M.length (plC P M.length) := by
  obtain ⟨A, k, sz, g, tb⟩ := t
  exact tb.k.at g (by simp) id
theorem S53.kp {Hb h : Heap} {P : List Nat} {x6 : AV} (t : S53 Hb h M P x6) : Kp (fun _ => False) Hb h := by
  obtain ⟨A, k, sz, g, tb⟩ := t
  exact k.trans tb.k
theorem S53.add {Hb H h : Heap} {P : List Nat} {x6 x11 : AV} {c : Nat} (t : S53 Hb H M P x6) (ng : NG H h x11 (cmL M c M.length)) (hc : clN M c = c) (hcn : c < M.length) (hP : P.length ≤ 8) :
    ∃ b n, x11 = .slice b 0 n n ∧ ∃ x1 e h2 h3, appA (h.plus [.cells 1 1 [.slice b 0 n n]]) h.size none 1 24 1 [.slice b 0 n n] x6 = some (x1, e) ∧ Eff.app e (h.plus [.cells 1 1 [.slice b 0 n n]]) = some h2 ∧ Eff.app (.put Hb.size M.length c [.bool true]) h2 = some h3 ∧ S53 Hb h3 M (P ++ [c]) x1 ∧ AV.cells x1 = some [x1] := by
  obtain ⟨A, k, sz, g, tb⟩ := t
  obtain ⟨b, rfl, gb⟩ := ng.l.sl (by
    intro e
    have : cmL M c M.length = [] := by simpa using e
    exact cmL_pos hc hcn this)
  have hb := ng.x0 b rfl
  have tb2 := tb.kp ng.k
  have hx : blk x6 ≠ some b := fun e => by
    obtain ⟨rs, lv, _⟩ := tb.r
    have := lv.lt e
    omega
  obtain ⟨x1, e, h2, q1, q2, q3, q4⟩ := tb2.app h.size gb ⟨hx, by have := tb.k.size; omega⟩ (by rw [bkC_len]; omega)
  rw [← bkC_s] at q3
  have g2 := q3.k.at g (by simp) id
  have hN : A.N ≤ Hb.size := by rw [k.N]; unfold Heap.size; omega
  have hN2 : h2.N ≤ Hb.size := by rw [q3.k.N]; exact hN
  have p := put_gen h2 Hb.size M.length c 1 (plC P M.length) [.bool true] hN2 g2 (by rw [show (plC P M.length).length = M.length from bls_len _ _]; show c + 1 ≤ M.length; omega)
  rw [show putAt (plC P M.length) c [.bool true] = plC (P ++ [c]) M.length from plC_set P hcn] at p
  refine ⟨b, _, rfl, x1, e, h2, _, q1, q2, p, ⟨A.upd Hb.size (.cells 1 M.length (plC (P ++ [c]) M.length)), k.updn _ _ hN (Nat.le_refl _), by rw [upd_size]; exact sz, upd_same _ _ _ hN sz, q3.both hN sz⟩, q4⟩
end
def Post53 (a : AM) (h : Heap) (v : AV) (own : List AObj) : Prop := TB h (h.plus own) v (bkC a.M (seqB a.M))
noncomputable def T32 : CallF := addK tbl T31 53 PreO Post53
theorem t32 : Sound Go.Proofs.Try.prog T32 := Sound.addK follows ok t31 (by decide) _ _
section
variable {M : List (List Int)}
theorem pi_ex (hm : isMat M = true) {i : Nat} (hi : i < M.length) : ∀ x, x ≤ M.length → ∃ p, PI M i (dsN M i) x 0 p
  | 0, _ => ⟨0, PI.init⟩
  | x + 1, hx => by
    obtain ⟨p, l⟩ := pi_ex hm hi x (by omega)
    have h8 := isMat_n hm
    have : ∀ y, y ≤ M.length → ∃ p, PI M i (dsN M i) x y p := fun y => by
      induction y with
      | zero => intro _; exact ⟨p, l⟩
      | succ y ih =>
        intro hy
        obtain ⟨p, l⟩ := ih (by omega)
        by_cases c : Mu M i x ∧ Mu M i y ∧ 0 < ent M x y
        · obtain ⟨c1, c2, c3⟩ := c
          obtain ⟨d1, a1, _, b1⟩ := ds_mu hm hi c1
          obtain ⟨d2, a2, _, b2⟩ := ds_mu hm hi c2
          exact ⟨_, l.take (fun z m => by obtain ⟨d, a, b, _⟩ := ds_mu hm hi m; exact ⟨d, a, b⟩) c1 c2 c3 (by omega)⟩
        · exact ⟨p, l.skip c⟩
    obtain ⟨p, l⟩ := this M.length (Nat.le_refl _)
    exact ⟨p, l.nextx hm⟩
theorem perN_ok (hm : isMat M = true) {i : Nat} (hi : i < M.length) : PerS M i (perN M i) := by
  obtain ⟨p, l⟩ := pi_ex hm hi M.length (Nat.le_refl _)
  have h := l.done hm (ds_0 i) (fun z m => by obtain ⟨d, a, b, _⟩ := ds_mu hm hi m; exact ⟨d, a, b⟩)
  rw [perN_eq h]; exact h
open Classical in
noncomputable def lyV (M : List (List Int)) (i z : Nat) : Int := if clN M z = clN M i then dsN M i z % (perN M i : Int) else -1
noncomputable def lyL (M : List (List Int)) (i : Nat) : List Int := lf (lyV M i) M.length
theorem ly_in (hm : isMat M = true) {i z : Nat} (hi : i < M.length) (hz : z < M.length) {f : Nat → Int} (d : DSp M i f) (h : f z ≠ -1) : 0 ≤ f z ∧ f z % (perN M i : Int) = lyV M i z := by
  have mu : Mu M i z := Classical.byContradiction fun n => h (d.2 z hz n)
  obtain ⟨a, ea, wa⟩ := d.1 z hz mu
  obtain ⟨b, eb, wb, _⟩ := ds_mu hm hi mu
  unfold lyV
  have pm := per_mod (perN_ok hm hi) mu wa wb
  rw [if_pos ((clN_eq hm hz hi).2 mu.symm), ea, eb]
  exact ⟨by omega, by exact_mod_cast pm⟩
theorem ly_out (hm : isMat M = true) {i z : Nat} (hi : i < M.length) (hz : z < M.length) {f : Nat → Int} (d : DSp M i f) (h : ¬ 0 ≤ f z) : f z = lyV M i z := by
  have nm : ¬ Mu M i z := fun m => by obtain ⟨a, ea, _⟩ := d.1 z hz m; omega
  unfold lyV
  rw [if_neg fun e => nm ((clN_eq hm hz hi).1 e).symm]
  exact d.2 z hz nm
noncomputable def lyF (M : List (List Int)) (i : Nat) (f : Nat → Int) (k z : Nat) : Int := if z < k ∧ 0 ≤ f z then f z % (perN M i : Int) else f z
structure KQ (H0 h : Heap) (bq n : Nat) (c : List AV) : Prop where
  k : Kp (fun _ => False) H0 h
  g : h.get bq = .cells 1 n c
theorem c38_l (J : CallF) (hm : isMat M = true) {H0 : Heap} {bq i : Nat} {f : Nat → Int} (hq : H0.size ≤ bq) (hi : i < M.length) (d : DSp M i f) (p0 : 0 < perN M i) (p1 : perN M i ≤ 100) :
    Tr tbl J c38_l0 (fun s h => KQ H0 h bq M.length (gs (lf (lyF M i f 0) M.length)) ∧ s.get [true, false, false] = .slice bq 0 M.length M.length ∧ s.get [false, true, false] = G (perN M i) ∧ s.get [false, false, true, false, false] = .slice bq 0 M.length M.length ∧ s.get [true, false, true, false, false] = G M.length ∧ s.get [false, true, true, false, false] = G ((0 : Nat) : Int)) (.exit 0)
      (fun s h => KQ H0 h bq M.length (gs (lyL M i)) ∧ s.get [true, false, false] = .slice bq 0 M.length M.length) := by
  have h8 := isMat_n hm
  refine Tr.rounds (P := fun z s h => KQ H0 h bq M.length (gs (lf (lyF M i f z) M.length)) ∧ s.get [true, false, false] = .slice bq 0 M.length M.length ∧ s.get [false, true, false] = G (perN M i) ∧ s.get [false, false, true, false, false] = .slice bq 0 M.length M.length ∧ s.get [true, false, true, false, false] = G M.length ∧ s.get [false, true, true, false, false] = G z) (M := M.length) (fun z hz => ?_) ?_ (by simp) 0 (by omega)
  · refine Tr.w fun s1 H1 hp R kR => W.trim ?_
    obtain ⟨kq, q⟩ := hp
    have g := kq.g
    have lc := gl_len (lyF M i f z) M.length
    have ez : (gs (lf (lyF M i f z) M.length))[z]? = some (G (f z)) := by
      rw [gl_at _ hz]; unfold lyF; rw [if_neg (by omega)]
    have ez' := getI ez
    have hN : H1.N ≤ bq := by rw [kq.k.N]; unfold Heap.size at hq; omega
    have hlt := get_lt g (by simp)
    by_cases c : 0 ≤ f z
    · have p := put_gen H1 bq M.length z 1 (gs (lf (lyF M i f z) M.length)) [G (f z % (perN M i : Int))] hN g (by rw [lc]; show z + 1 ≤ M.length; omega)
      have es : putAt (gs (lf (lyF M i f z) M.length)) z [G (f z % (perN M i : Int))] = gs (lf (lyF M i f (z + 1)) M.length) := by
        show (gs (lf (lyF M i f z) M.length)).set z (G (f z % (perN M i : Int))) = _
        rw [gl_set _ _ _ _ hz]
        congr 1
        apply lf_ext
        intro x hx
        unfold lyF
        by_cases e : x = z
        · subst e; rw [if_pos rfl, if_pos ⟨by omega, c⟩]
        · rw [if_neg e]
          by_cases c2 : x < z ∧ 0 ≤ f x
          · rw [if_pos c2, if_pos ⟨by omega, c2.2⟩]
          · rw [if_neg c2, if_neg (by omega)]
      rw [es] at p
      have fin : KQ H0 (H1.upd bq (.cells 1 M.length (gs (lf (lyF M i f (z + 1)) M.length)))) bq M.length (gs (lf (lyF M i f (z + 1)) M.length)) := ⟨kq.k.updn _ _ hN hq, upd_same _ _ _ hN hlt⟩
      clear kq d es
      generalize gs (lf (lyF M i f (z + 1)) M.length) = c2 at *
      generalize gs (lf (lyF M i f z) M.length) = c1 at *
      generalize f z = u at *
      generalize perN M i = r at *
      refine W.seq (W.chunk ?_)
      simp (disch := first|omega|exact zE rfl|exact zO|exact zL rfl) [c38_o8, zG, q]
      refine W.seq (W.chunk ?_)
      simp (disch := first|omega|exact zE rfl|exact zO|exact zL rfl) [zG, q]
      refine W.seq (W.block ?_)
      refine W.seq (W.chunk ?_)
      simp (disch := first|omega|exact zE rfl|exact zO|exact zL rfl) [c38_o9, zG, q, g, ez, ez', lc]
      refine W.seq (W.chunk ?_)
      simp (disch := first|omega|exact zE rfl|exact zO|exact zL rfl) [c38_o10, zG, q]
      refine W.cond (v := true) (by simp (disch := first|omega|exact zE rfl|exact zO|exact zL rfl) [zG, q]) ?_
      simp only [if_true, if_false, Bool.false_eq_true]
      refine W.chunk ?_
      simp (disch := first|omega|exact zE rfl|exact zO|exact zL rfl) [c38_o11, zG, q, p]
      refine W.chunk ?_
      simp (disch := first|omega|exact zE rfl|exact zO|exact zL rfl) [c38_o12, zG, q]
      exact kR _ _ ⟨fin, by simp [T.get, q]⟩
    · have fin : KQ H0 H1 bq M.length (gs (lf (lyF M i f (z + 1)) M.length)) := by
        have : lf (lyF M i f (z + 1)) M.length = lf (lyF M i f z) M.length := by
          apply lf_ext
          intro x hx
          unfold lyF
          by_cases e : x = z
          · subst e; rw [if_neg (by omega), if_neg (by omega)]
          · by_cases c2 : x < z ∧ 0 ≤ f x
            · rw [if_pos c2, if_pos ⟨by omega, c2.2⟩]
            · rw [if_neg c2, if_neg (by omega)]
        rw [this]; exact kq
      clear kq d
      generalize gs (lf (lyF M i f (z + 1)) M.length) = c2 at *
      generalize gs (lf (lyF M i f z) M.length) = c1 at *
      generalize f z = u at *
      generalize perN M i = r at *
      refine W.seq (W.chunk ?_)
      simp (disch := first|omega|exact zE rfl|exact zO|exact zL rfl) [c38_o8, zG, q]
      refine W.seq (W.chunk ?_)
      simp (disch := first|omega|exact zE rfl|exact zO|exact zL rfl) [zG, q]
      refine W.seq (W.block ?_)
      refine W.seq (W.chunk ?_)
      simp (disch := first|omega|exact zE rfl|exact zO|exact zL rfl) [c38_o9, zG, q, g, ez, ez', lc]
      refine W.seq (W.chunk ?_)
      simp (disch := first|omega|exact zE rfl|exact zO|exact zL rfl) [c38_o10, zG, q]
      refine W.chunk ?_
      simp (disch := first|omega|exact zE rfl|exact zO|exact zL rfl) [c38_o11, zG, q]
      refine W.chunk ?_
      simp (disch := first|omega|exact zE rfl|exact zO|exact zL rfl) [c38_o12, zG, q]
      exact kR _ _ ⟨fin, by simp [T.get, q]⟩
  · refine Tr.w fun s1 H1 hp R kR => W.trim ?_
    obtain ⟨kq, q⟩ := hp
    have e : lf (lyF M i f M.length) M.length = lyL M i := by
      unfold lyL
      apply lf_ext
      intro x hx
      unfold lyF
      by_cases c : 0 ≤ f x
      · rw [if_pos ⟨hx, c⟩]; exact (ly_in hm hi hx d (by omega)).2
      · rw [if_neg (by omega)]; exact ly_out hm hi hx d c
    rw [e] at kq
    refine W.seq (W.chunk ?_)
    simp (disch := first|omega|exact zE rfl|exact zO|exact zL rfl) [c38_o8, zG, q]
    refine W.seq (W.chunk ?_)
    simp (disch := first|omega|exact zE rfl|exact zO|exact zL rfl) [zG, q]
    exact kR _ _ ⟨kq, by simp [T.get, q]⟩
theorem c38_bad (J : CallF) (k54 : K54 J) (hJ : ∀ a h, J 38 a h = none) (h : Heap) (i : Int) {y : AV} (hy : MR h y M) (hm : isMat M = false) : CallsTo tbl J 38 [y, G i] h (.tup [.nils, G 2], [], false) := by
  refine Tr.fnv (cf := c38) (e := .ret) (s := T.set (T.set .leaf [] y) [false] (G i)) (by decide) rfl (hJ _ _) rfl rfl rfl (by simp) ?_
  obtain ⟨cs, k54, hl, hc⟩ := k54 ⟨h.get, h.size, []⟩ y M (hy.lo [])
  have rp : (List.replicate 65 (AV.int .i64 0)).length = 65 := List.length_replicate
  have ep : putAt (List.replicate 65 (AV.int .i64 0)) 0 cs = cs := putAt_all _ _ (by omega)
  refine Tr.w fun s1 H1 hp R kR => ?_
  obtain ⟨rfl, rfl⟩ := hp
  have q : True := trivial
  generalize hZ : List.replicate 65 (AV.int .i64 0) = Z at *
  rw [hm] at k54
  refine W.seq (W.chunk ?_)
  simp (disch := first|omega|exact zE rfl|exact zO|exact zL rfl) [-List.reduceReplicate, c38_o0, size_mk, get_mk_lt, get_mk_ge, frameOf, Eff.app, Heap.setOwn, q]
  refine W.seq (W.chunk ?_)
  simp (disch := first|omega|exact zE rfl|exact zO|exact zL rfl) [-List.reduceReplicate, c38_o1, size_mk, get_mk_lt, get_mk_ge, frameOf, Eff.app, Heap.setOwn, q, k54, hZ, ep, rp, hl, frameOf]
  refine W.assoc ?_
  refine W.seq (W.chunk ?_)
  simp (disch := first|omega|exact zE rfl|exact zO|exact zL rfl) [-List.reduceReplicate, c38_o2, size_mk, get_mk_lt, get_mk_ge, frameOf, Eff.app, Heap.setOwn, q]
  refine W.seq (W.chunk ?_)
  simp (disch := first|omega|exact zE rfl|exact zO|exact zL rfl) [-List.reduceReplicate, c38_o3, size_mk, get_mk_lt, get_mk_ge, frameOf, Eff.app, Heap.setOwn, q]
  exact kR _ _ ⟨[.nils, G 2], by simp [T.get, c38, evRess, evRes], rfl⟩
theorem c38_out (J : CallF) (k54 : K54 J) (k57 : K57 J) (hJ : ∀ a h, J 38 a h = none) (h : Heap) (i : Int) {y : AV} (hy : MR h y M) (hm : isMat M = true) (hi : ¬ (0 ≤ i ∧ i < M.length)) : CallsTo tbl J 38 [y, G i] h (.tup [.nils, G 2], [], false) := by
  refine Tr.fnv (cf := c38) (e := .ret) (s := T.set (T.set .leaf [] y) [false] (G i)) (by decide) rfl (hJ _ _) rfl rfl rfl (by simp) ?_
  have h8 := isMat_n hm
  obtain ⟨cs, k54, hl, hc⟩ := k54 ⟨h.get, h.size, []⟩ y M (hy.lo [])
  have rp : (List.replicate 65 (AV.int .i64 0)).length = 65 := List.length_replicate
  obtain rfl := hc hm
  have ep : putAt (List.replicate 65 (AV.int .i64 0)) 0 (matC M) = matC M := putAt_all _ _ (by omega)
  have e0 : (matC M)[0]? = some (G M.length) := rfl
  have e0' := getI e0
  have d : ¬ (0 ≤ i ∧ i ≤ (M.length : Int) - 1) := by omega
  have k57' := fun h => k57 i 0 ((M.length : Int) - 1) h
  rw [decide_eq_false d] at k57'
  refine Tr.w fun s1 H1 hp R kR => ?_
  obtain ⟨rfl, rfl⟩ := hp
  have q : True := trivial
  generalize hZ : List.replicate 65 (AV.int .i64 0) = Z at *
  rw [hm] at k54
  clear hi d
  generalize matC M = cm at *
  refine W.seq (W.chunk ?_)
  simp (disch := first|omega|exact zE rfl|exact zO|exact zL rfl) [-List.reduceReplicate, c38_o0, size_mk, get_mk_lt, get_mk_ge, frameOf, Eff.app, Heap.setOwn, q]
  refine W.seq (W.chunk ?_)
  simp (disch := first|omega|exact zE rfl|exact zO|exact zL rfl) [-List.reduceReplicate, c38_o1, size_mk, get_mk_lt, get_mk_ge, frameOf, Eff.app, Heap.setOwn, q, k54, hZ, ep, rp, hl, frameOf]
  refine W.assoc ?_
  refine W.seq (W.chunk ?_)
  simp (disch := first|omega|exact zE rfl|exact zO|exact zL rfl) [-List.reduceReplicate, c38_o2, size_mk, get_mk_lt, get_mk_ge, frameOf, Eff.app, Heap.setOwn, q, e0, e0', hl, k57', app_if, app_if']
  refine W.seq (W.chunk ?_)
  simp (disch := first|omega|exact zE rfl|exact zO|exact zL rfl) [-List.reduceReplicate, c38_o3, size_mk, get_mk_lt, get_mk_ge, frameOf, Eff.app, Heap.setOwn, q]
  exact kR _ _ ⟨[.nils, G 2], by simp [T.get, c38, evRess, evRes], rfl⟩
theorem c38_zero (J : CallF) (k54 : K54 J) (k57 : K57 J) (k63 : K63 J) (hJ : ∀ a h, J 38 a h = none) (h : Heap) {i : Nat} {y : AV} (hy : MR h y M) (hm : isMat M = true) (hi : i < M.length) (hp0 : perN M i = 0) : CallsTo tbl J 38 [y, G i] h (.tup [.nils, G 6], [], false) := by
  refine Tr.fnv (cf := c38) (e := .ret) (s := T.set (T.set .leaf [] y) [false] (G i)) (by decide) rfl (hJ _ _) rfl rfl rfl (by simp) ?_
  have h8 := isMat_n hm
  have fs := fr_size h
  obtain ⟨cs, k54, hl, hc⟩ := k54 (frameOf h) y M (hy.lo [])
  have rp : (List.replicate 65 (AV.int .i64 0)).length = 65 := List.length_replicate
  obtain rfl := hc hm
  have ep : putAt (List.replicate 65 (AV.int .i64 0)) 0 (matC M) = matC M := putAt_all _ _ (by omega)
  have et : (matC M).take 65 = matC M := List.take_of_length_le (by omega)
  have e0 : (matC M)[0]? = some (G M.length) := rfl
  have e0' := getI e0
  have gm : ((frameOf h).plus [.cells 0 65 (matC M)]).get h.size = .cells 0 65 (matC M) := plus_at0 _ _ _ _ fs
  have d : 0 ≤ (i : Int) ∧ (i : Int) ≤ (M.length : Int) - 1 := by omega
  have k57' := fun h => k57 i 0 ((M.length : Int) - 1) h
  rw [decide_eq_true d] at k57'
  obtain ⟨v, own, k63, w, f, rfl, _, _, _⟩ := k63 ((frameOf h).plus [.cells 0 65 (matC M)]) ⟨M, i⟩ ⟨hm, hi⟩
  simp only [hp0] at k63
  refine Tr.w fun s1 H1 hp R kR => ?_
  obtain ⟨rfl, rfl⟩ := hp
  have q : True := trivial
  generalize hZ : List.replicate 65 (AV.int .i64 0) = Z at *
  rw [hm] at k54
  clear d
  generalize matC M = cm at *
  refine W.seq (W.chunk ?_)
  simp (disch := first|omega|exact zE rfl|exact zO|exact zL rfl) [-List.reduceReplicate, c38_o0, zG, q]
  refine W.seq (W.chunk ?_)
  simp (disch := first|omega|exact zE rfl|exact zO|exact zL rfl) [-List.reduceReplicate, c38_o1, zG, q, k54, hZ, ep, rp, hl, app_if, app_if', fs]
  refine W.assoc ?_
  refine W.seq (W.chunk ?_)
  simp (disch := first|omega|exact zE rfl|exact zO|exact zL rfl) [-List.reduceReplicate, c38_o2, zG, q, gm, e0, e0', hl, k57', app_if, app_if']
  refine W.seq (W.chunk ?_)
  simp (disch := first|omega|exact zE rfl|exact zO|exact zL rfl) [-List.reduceReplicate, c38_o3, zG, q]
  refine W.seq (W.chunk ?_)
  simp (disch := first|omega|exact zE rfl|exact zO|exact zL rfl) [-List.reduceReplicate, c38_o4, zG, q, gm, et, hl, k63, app_if, app_if']
  refine W.assoc ?_
  refine W.seq (W.chunk ?_)
  simp (disch := first|omega|exact zE rfl|exact zO|exact zL rfl) [-List.reduceReplicate, c38_o5, zG, q]
  refine W.seq (W.chunk ?_)
  simp (disch := first|omega|exact zE rfl|exact zO|exact zL rfl) [-List.reduceReplicate, c38_o6, zG, q]
  exact kR _ _ ⟨[.nils, G 6], by simp [T.get, c38, evRess, evRes], rfl⟩
theorem c38_ok (J : CallF) (k54 : K54 J) (k57 : K57 J) (k63 : K63 J) (hJ : ∀ a h, J 38 a h = none) (h : Heap) {i : Nat} {y : AV} (hy : MR h y M) (hm : isMat M = true) (hi : i < M.length) (hp0 : perN M i ≠ 0) : ∃ v own, CallsTo tbl J 38 [y, G i] h (v, own, false) ∧ ∃ w, v = .tup [w, G 0] ∧ NG h (h.plus own) w (lyL M i) := by
  refine Tr.fny (cf := c38) (e := .ret) (s := T.set (T.set .leaf [] y) [false] (G i)) (by decide) rfl (hJ _ _) rfl rfl (by simp) ?_
  have h8 := isMat_n hm
  have fs := fr_size h
  obtain ⟨cs, k54, hl, hc⟩ := k54 (frameOf h) y M (hy.lo [])
  have rp : (List.replicate 65 (AV.int .i64 0)).length = 65 := List.length_replicate
  obtain rfl := hc hm
  have ep : putAt (List.replicate 65 (AV.int .i64 0)) 0 (matC M) = matC M := putAt_all _ _ (by omega)
  have et : (matC M).take 65 = matC M := List.take_of_length_le (by omega)
  have e0 : (matC M)[0]? = some (G M.length) := rfl
  have e0' := getI e0
  have gm : ((frameOf h).plus [.cells 0 65 (matC M)]).get h.size = .cells 0 65 (matC M) := plus_at0 _ _ _ _ fs
  have d : 0 ≤ (i : Int) ∧ (i : Int) ≤ (M.length : Int) - 1 := by omega
  have k57' := fun h => k57 i 0 ((M.length : Int) - 1) h
  rw [decide_eq_true d] at k57'
  obtain ⟨v, own, k63, w, f, rfl, ds, pb, ng⟩ := k63 ((frameOf h).plus [.cells 0 65 (matC M)]) ⟨M, i⟩ ⟨hm, hi⟩
  simp only at k63 ds pb ng
  have kA : Kp (fun _ => False) (frameOf h) ((frameOf h).plus [.cells 0 65 (matC M)]) := Kp.plus _ _
  obtain ⟨bq, rfl, gq⟩ := ng.l.sl (by intro e; have h0 : (gs (lf f M.length)).length = M.length := gl_len _ _; rw [e] at h0; simp at h0; omega)
  rw [show (gs (lf f M.length)).length = M.length from gl_len _ _] at k63 gq
  have hbq := ng.x0 bq rfl
  have hq0 : (frameOf h).size ≤ bq := Nat.le_trans kA.size hbq
  have l0 := c38_l J hm hq0 hi ds (by omega) pb
  have kq : KQ (frameOf h) (((frameOf h).plus [.cells 0 65 (matC M)]).plus own) bq M.length (gs (lf (lyF M i f 0) M.length)) := ⟨kA.trans ng.k, by
    rw [show lf (lyF M i f 0) M.length = lf f M.length from by
      apply lf_ext; intro x hx; unfold lyF; rw [if_neg (by omega)]]
    exact gq⟩
  refine Tr.w fun s1 H1 hp R kR => ?_
  obtain ⟨rfl, rfl⟩ := hp
  have q : True := trivial
  generalize hZ : List.replicate 65 (AV.int .i64 0) = Z at *
  rw [hm] at k54
  have hp1 : ¬ (perN M i : Int) = 0 := by omega
  clear d ng gq ds
  generalize perN M i = r at *
  generalize matC M = cm at *
  refine W.seq (W.chunk ?_)
  simp (disch := first|omega|exact zE rfl|exact zO|exact zL rfl) [-List.reduceReplicate, c38_o0, zG, q]
  refine W.seq (W.chunk ?_)
  simp (disch := first|omega|exact zE rfl|exact zO|exact zL rfl) [-List.reduceReplicate, c38_o1, zG, q, k54, hZ, ep, rp, hl, app_if, app_if', fs]
  refine W.assoc ?_
  refine W.seq (W.chunk ?_)
  simp (disch := first|omega|exact zE rfl|exact zO|exact zL rfl) [-List.reduceReplicate, c38_o2, zG, q, gm, e0, e0', hl, k57', app_if, app_if']
  refine W.seq (W.chunk ?_)
  simp (disch := first|omega|exact zE rfl|exact zO|exact zL rfl) [-List.reduceReplicate, c38_o3, zG, q]
  refine W.seq (W.chunk ?_)
  simp (disch := first|omega|exact zE rfl|exact zO|exact zL rfl) [-List.reduceReplicate, c38_o4, zG, q, gm, et, hl, k63, app_if, app_if']
  refine W.assoc ?_
  refine W.seq (W.chunk ?_)
  simp (disch := first|omega|exact zE rfl|exact zO|exact zL rfl) [-List.reduceReplicate, c38_o5, zG, q]
  refine W.seq (W.chunk ?_)
  simp (disch := first|omega|exact zE rfl|exact zO|exact zL rfl) [-List.reduceReplicate, c38_o6, zG, q]
  refine W.assoc ?_
  refine W.seq (W.chunk ?_)
  simp (disch := first|omega|exact zE rfl|exact zO|exact zL rfl) [-List.reduceReplicate, c38_o7, zG, q]
  refine W.seq (W.block ?_)
  refine W.use (l0) (by simp (disch := first|omega|exact zE rfl|exact zO|exact zL rfl) [-List.reduceReplicate, zG, q, kq]) fun s1 H1 hp => ?_
  obtain ⟨kq2, q⟩ := hp
  try simp only [zW, if_true]
  refine W.seq (W.chunk ?_)
  simp (disch := first|omega|exact zE rfl|exact zO|exact zL rfl) [-List.reduceReplicate, c38_o13, zG, q]
  refine W.ret ?_
  try simp only [zW, if_true]
  have ng : NG (frameOf h) H1 (.slice bq 0 M.length M.length) (lyL M i) := ⟨kq2.k, fun q hq => by cases hq; exact hq0, .inr ⟨bq, by unfold lyL; rw [gl_len], by rw [show (gs (lyL M i)).length = M.length from gl_len _ _]; exact kq2.g, by rw [kq2.k.N]; have := hq0; rw [fr_size] at this; simpa [frameOf] using this⟩⟩
  exact kR _ _ ⟨[.slice bq 0 M.length M.length, G 0], by simp [T.get, c38, evRess, evRes, q], _, rfl, ng.fr1⟩
end
structure AL where
  M : List (List Int)
  y : AV
  i : Int
def PreL (a : AL) (args : List AV) (h : Heap) : Prop := MR h a.y a.M ∧ args = [a.y, G a.i]
def inL (a : AL) : Prop := isMat a.M = true ∧ 0 ≤ a.i ∧ a.i < a.M.length
def Post38 (a : AL) (h : Heap) (v : AV) (own : List AObj) : Prop := (¬ inL a → v = .tup [.nils, G 2] ∧ own = []) ∧ (inL a → perN a.M a.i.toNat = 0 → v = .tup [.nils, G 6] ∧ own = []) ∧ (inL a → perN a.M a.i.toNat ≠ 0 → ∃ w, v = .tup [w, G 0] ∧ NG h (h.plus own) w (lyL a.M a.i.toNat))
noncomputable def T33 : CallF := addK tbl T32 38 PreL Post38
theorem t33 : Sound Go.Proofs.Try.prog T33 := Sound.addK follows ok t32 (by decide) _ _
abbrev K38 (J : CallF) : Prop := ∀ (h : Heap) (a : AL), MR h a.y a.M → ∃ v own, J 38 [a.y, G a.i] h = some (v, own, false) ∧ Post38 a h v own
theorem k54_32 : K54 T32 := fun h y M hy => by
  simp (disch := decide) only [T32, T31, T30, T29, T28, T27, T26, T25, T24, T23, T22, T21, T20, T19, T18, T17, T16, T15, T14, T13, T12, T11, T10, T9, T8, T7, T6, T5, T4, T3, T2, T1, R21, R20, R19, R18, R17, R16, R15, R14, R13, R12, R11, R10, R9, R8, R7, R6, R5, R4, R3, R2, R1, addI_ne, addX_ne, addV_ne, addK_ne]
  exact k54 h y M hy
theorem k57_32 : K57 T32 := fun n lo hi h => by
  simp (disch := decide) only [T32, T31, T30, T29, T28, T27, T26, T25, T24, T23, T22, T21, T20, T19, T18, T17, T16, T15, T14, T13, T12, T11, T10, T9, T8, T7, T6, T5, T4, T3, T2, T1, R21, R20, R19, R18, R17, R16, R15, R14, R13, R12, R11, R10, R9, R8, R7, R6, R5, R4, R3, R2, R1, addI_ne, addX_ne, addV_ne, addK_ne]
  exact k57 n lo hi h
theorem k63_32 : K63 T32 := fun h a ha => by
  simp (disch := decide) only [T32, T31, T30, T29, T28, T27, addK_ne]
  exact k63 h a ha
theorem k38 : K38 T33 := fun h a ha => addK_some (Pre := PreL) (Post := Post38) (fun a args h hp => by
  obtain ⟨hy, rfl⟩ := hp
  have hn : ∀ a h, T32 38 a h = none := (fun _ _ => by simp (disch := decide) only [T32, T31, T30, T29, T28, T27, T26, T25, T24, T23, T22, T21, T20, T19, T18, T17, T16, T15, T14, T13, T12, T11, T10, T9, T8, T7, T6, T5, T4, T3, T2, T1, R21, R20, R19, R18, R17, R16, R15, R14, R13, R12, R11, R10, R9, R8, R7, R6, R5, R4, R3, R2, R1, addI_ne, addX_ne, addV_ne, addK_ne]; rfl)
  by_cases c : inL a
  · obtain ⟨c1, c2, c3⟩ := id c
    obtain ⟨i, hi⟩ : ∃ i : Nat, a.i = i := ⟨a.i.toNat, by omega⟩
    by_cases c4 : perN a.M a.i.toNat = 0
    · refine ⟨_, _, ?_, fun n => absurd c n, fun _ _ => ⟨rfl, rfl⟩, fun _ n => absurd c4 n⟩
      rw [hi] at c4 ⊢
      exact c38_zero T32 k54_32 k57_32 k63_32 hn h hy c1 (by omega) c4
    · have c5 : perN a.M i ≠ 0 := by rw [hi] at c4; exact c4
      obtain ⟨v, own, e, w, e2, ng⟩ := c38_ok T32 k54_32 k57_32 k63_32 hn h hy c1 (i := i) (by omega) c5
      exact ⟨v, own, by rw [hi]; exact e, fun n => absurd c n, fun _ q => absurd q c4, fun _ _ => ⟨w, e2, by rw [hi]; exact ng⟩⟩
  · refine ⟨_, _, ?_, fun _ => ⟨rfl, rfl⟩, fun q => absurd q c, fun q => absurd q c⟩
    cases w : isMat a.M
    · exact c38_bad T32 k54_32 hn h a.i hy w
    · exact c38_out T32 k54_32 k57_32 hn h a.i hy w fun q => c ⟨w, q⟩) a _ h ⟨ha, rfl⟩
section
variable {M : List (List Int)}
theorem c42_l (J : CallF) (hm : isMat M = true) {H0 : Heap} {b v qc qd i : Nat} (gc : H0.get qc = .cells 1 M.length (gs (clsL M))) (gd : H0.get qd = .cells 1 M.length (gs (lf (dsN M i) M.length))) (hi : i < M.length) (p0 : 0 < perN M i) (p1 : perN M i ≤ 100) :
    Tr tbl J c42_l0 (fun s h => h = H0 ∧ s.get [] = .slice b 0 M.length v ∧ s.get [false] = G i ∧ s.get [true, true] = .slice qc 0 M.length M.length ∧ s.get [false, false, false] = G (perN M i) ∧ s.get [true, false, false] = .slice qd 0 M.length M.length ∧ s.get [false, true, false] = .nils ∧ s.get [true, true, false] = G ((0 : Nat) : Int)) (.exit 0) (fun s h => ∃ xo, NG H0 h xo (lyL M i) ∧ s.get [false, true, false] = xo) := by
  have h8 := isMat_n hm
  refine Tr.pre (P := fun s h => ∃ xo, NG H0 h xo (lf (lyV M i) 0) ∧ s.get [] = .slice b 0 M.length v ∧ s.get [false] = G i ∧ s.get [true, true] = .slice qc 0 M.length M.length ∧ s.get [false, false, false] = G (perN M i) ∧ s.get [true, false, false] = .slice qd 0 M.length M.length ∧ s.get [false, true, false] = xo ∧ s.get [true, true, false] = G ((0 : Nat) : Int)) (fun s h q => ⟨.nils, by rw [q.1]; exact NG.nil H0, q.2⟩) ?_
  refine Tr.rounds (P := fun z s h => ∃ xo, NG H0 h xo (lf (lyV M i) z) ∧ s.get [] = .slice b 0 M.length v ∧ s.get [false] = G i ∧ s.get [true, true] = .slice qc 0 M.length M.length ∧ s.get [false, false, false] = G (perN M i) ∧ s.get [true, false, false] = .slice qd 0 M.length M.length ∧ s.get [false, true, false] = xo ∧ s.get [true, true, false] = G z) (M := M.length) (fun z hz => ?_) ?_ (by simp) 0 (by omega)
  · refine Tr.w fun s1 H1 hp R kR => W.trim ?_
    obtain ⟨xo, ng, q⟩ := hp
    have gc1 := ng.k.at gc (by simp) id
    have gd1 := ng.k.at gd (by simp) id
    have ci : (gs (clsL M))[i]? = some (G (clN M i)) := gl_at _ hi
    have cz : (gs (clsL M))[z]? = some (G (clN M z)) := gl_at _ hz
    have dz : (gs (lf (dsN M i) M.length))[z]? = some (G (dsN M i z)) := gl_at _ hz
    have ld := gl_len (dsN M i) M.length
    have ci' := getI ci
    have cz' := getI cz
    have dz' := getI dz
    obtain ⟨x1, e, h2, q1, q2, ng2, _⟩ := ng.app H1.size (lyV M i z) (by rw [lf_len]; omega)
    rw [← lf_succ] at ng2
    have f1 := app1_at H1 (G (lyV M i z))
    by_cases c : clN M z = clN M i
    · have mu : Mu M i z := ((clN_eq hm hz hi).1 c).symm
      obtain ⟨d, ed, _, _⟩ := ds_mu hm hi mu
      have el : lyV M i z = dsN M i z % (perN M i : Int) := if_pos c
      have d0 : 0 ≤ dsN M i z := by omega
      rw [el] at q1 q2 f1
      rw [c] at cz cz'
      clear ng ed el
      generalize dsN M i z = u at *
      generalize gs (lf (dsN M i) M.length) = cd at *
      generalize perN M i = r at *
      generalize gs (clsL M) = ccs at *
      refine W.assoc ?_
      refine W.seq (W.chunk ?_)
      simp (disch := first|omega|exact zE rfl|exact zO|exact zL rfl) [c42_o8, zG, q]
      refine W.seq (W.chunk ?_)
      simp (disch := first|omega|exact zE rfl|exact zO|exact zL rfl) [zG, q]
      refine W.seq (W.block ?_)
      refine W.seq (W.chunk ?_)
      simp (disch := first|omega|exact zE rfl|exact zO|exact zL rfl) [c42_o9, zG, q, gc1, ci, ci', cz, cz', -evDraw_c, evDraw_0]
      refine W.cond (v := true) (by simp (disch := first|omega|exact zE rfl|exact zO|exact zL rfl) [zG, q]) ?_
      simp only [if_true, if_false, Bool.false_eq_true]
      refine W.chunk ?_
      simp (disch := first|omega|exact zE rfl|exact zO|exact zL rfl) [c42_o10, zG, q, gd1, dz, dz', ld, elems, rdOf, f1, q1, q2]
      refine W.chunk ?_
      simp (disch := first|omega|exact zE rfl|exact zO|exact zL rfl) [c42_o12, zG, q]
      exact kR _ _ ⟨_, ng2, by simp [T.get, q]⟩
    · have el : lyV M i z = -1 := if_neg c
      have c' : ¬ (clN M z : Int) = clN M i := by omega
      rw [el] at q1 q2 f1
      clear ng dz dz' ld gd1 el
      generalize clN M z = u at *
      generalize clN M i = w at *
      generalize gs (clsL M) = ccs at *
      refine W.assoc ?_
      refine W.seq (W.chunk ?_)
      simp (disch := first|omega|exact zE rfl|exact zO|exact zL rfl) [c42_o8, zG, q]
      refine W.seq (W.chunk ?_)
      simp (disch := first|omega|exact zE rfl|exact zO|exact zL rfl) [zG, q]
      refine W.seq (W.block ?_)
      refine W.seq (W.chunk ?_)
      simp (disch := first|omega|exact zE rfl|exact zO|exact zL rfl) [c42_o9, zG, q, gc1, ci, ci', cz, cz', c', -evDraw_c, evDraw_0]
      refine W.cond (v := false) (by simp (disch := first|omega|exact zE rfl|exact zO|exact zL rfl) [zG, q]) ?_
      simp only [if_true, if_false, Bool.false_eq_true]
      refine W.chunk ?_
      simp (disch := first|omega|exact zE rfl|exact zO|exact zL rfl) [c42_o11, zG, q, elems, rdOf, f1, q1, q2]
      refine W.chunk ?_
      simp (disch := first|omega|exact zE rfl|exact zO|exact zL rfl) [c42_o12, zG, q]
      exact kR _ _ ⟨_, ng2, by simp [T.get, q]⟩
  · refine Tr.w fun s1 H1 hp R kR => W.trim ?_
    obtain ⟨xo, ng, q⟩ := hp
    refine W.assoc ?_
    refine W.seq (W.chunk ?_)
    simp (disch := first|omega|exact zE rfl|exact zO|exact zL rfl) [c42_o8, zG, q]
    refine W.seq (W.chunk ?_)
    simp (disch := first|omega|exact zE rfl|exact zO|exact zL rfl) [zG, q]
    exact kR _ _ ⟨_, ng, by simp [T.get, q]⟩
theorem c42_ok (J : CallF) (k50 : K50 J) (k51 : K51 J) (k71 : K71 J) (hJ : ∀ a h, J 42 a h = none) (h : Heap) {i : Nat} {y : AV} (hy : MR h y M) (hm : isMat M = true) (hi : i < M.length) (p1 : perN M i ≤ 100) : ∃ v own, CallsTo tbl J 42 [y, G i] h (v, own, false) ∧ ((perN M i = 0 ∧ v = .tup [.nils, .bool false] ∧ own = []) ∨ (perN M i ≠ 0 ∧ ∃ w, v = .tup [w, .bool true] ∧ NG h (h.plus own) w (lyL M i))) := by
  refine Tr.fny (cf := c42) (e := .ret) (s := T.set (T.set .leaf [] y) [false] (G i)) (by decide) rfl (hJ _ _) rfl rfl (by simp) ?_
  have h8 := isMat_n hm
  have hy0 : MR (frameOf h) y M := hy.lo []
  obtain ⟨w, own, k50, nc⟩ := k50 (frameOf h) ⟨M, y⟩ hy0 hm
  simp only at k50 nc
  obtain ⟨qc, rfl, gc⟩ := nc.l.sl (by intro e; have h0 : (gs (clsL M)).length = M.length := gl_len _ _; rw [e] at h0; simp at h0; omega)
  rw [show (gs (clsL M)).length = M.length from gl_len _ _] at k50 gc
  have kp1 : Kp (fun _ => False) (frameOf h) ((frameOf h).plus own) := Kp.plus _ _
  have hy1 := hy0.kp kp1
  generalize hH1 : (frameOf h).plus own = Ha at *
  obtain ⟨w2, own2, k51, np⟩ := k51 Ha ⟨M, y⟩ hy1 hm
  simp only at k51 np
  obtain ⟨qp, rfl, gp⟩ := np.l.sl (by intro e; have h0 : (gs (pdL M)).length = M.length := gl_len _ _; rw [e] at h0; simp at h0; omega)
  rw [show (gs (pdL M)).length = M.length from gl_len _ _] at k51 gp
  have kp2 : Kp (fun _ => False) Ha (Ha.plus own2) := Kp.plus _ _
  have hy2 := hy1.kp kp2
  have gc2 := kp2.at gc (by simp) id
  generalize hH2 : Ha.plus own2 = Hb at *
  have ep : (gs (pdL M))[i]? = some (G (perN M i : Int)) := gl_at _ hi
  have ep' := getI ep
  have lp : (gs (pdL M)).length = M.length := gl_len _ _
  obtain ⟨b, v, cs, rfl, mx⟩ := hy2.mx hm
  obtain ⟨w3, own3, k71, nd⟩ := k71 Hb ⟨M, _, i⟩ ⟨hy2, hm, hi⟩
  simp only at k71 nd
  obtain ⟨qd, rfl, gd⟩ := nd.l.sl (by intro e; have h0 : (gs (lf (dsN M i) M.length)).length = M.length := gl_len _ _; rw [e] at h0; simp at h0; omega)
  rw [gl_len] at k71 gd
  have kp3 : Kp (fun _ => False) Hb (Hb.plus own3) := Kp.plus _ _
  have gc3 := kp3.at gc2 (by simp) id
  generalize hH3 : Hb.plus own3 = Hc at *
  refine Tr.w fun s1 H1 hp R kR => ?_
  obtain ⟨rfl, rfl⟩ := hp
  have q : True := trivial
  by_cases c : perN M i = 0
  · rw [c] at ep ep'
    clear nc np nd mx hy hy0 hy1 hy2
    generalize gs (pdL M) = cp at *
    refine W.seq (W.chunk ?_)
    simp (disch := first|omega|exact zE rfl|exact zO|exact zL rfl) [c42_o0, zG, q]
    refine W.seq (W.chunk ?_)
    simp (disch := first|omega|exact zE rfl|exact zO|exact zL rfl) [c42_o1, zG, q, k50, app_if, app_if', hH1]
    refine W.seq (W.chunk ?_)
    simp (disch := first|omega|exact zE rfl|exact zO|exact zL rfl) [c42_o2, zG, q, k51, app_if, app_if', hH2, gp, ep, ep', lp]
    refine W.assoc ?_
    refine W.seq (W.chunk ?_)
    simp (disch := first|omega|exact zE rfl|exact zO|exact zL rfl) [c42_o3, zG, q]
    refine W.seq (W.chunk ?_)
    simp (disch := first|omega|exact zE rfl|exact zO|exact zL rfl) [c42_o4, zG, q]
    exact kR _ _ ⟨[.nils, .bool false], by simp [T.get, c42, evRess, evRes], .inl ⟨c, rfl, rfl⟩⟩
  · have l0 := c42_l (b := b) (v := v) J hm gc3 gd hi (by omega) p1
    have c' : ¬ (perN M i : Int) = 0 := by omega
    clear nc np nd mx hy hy0 hy1 hy2
    generalize hr : perN M i = r at *
    generalize gs (pdL M) = cp at *
    refine W.seq (W.chunk ?_)
    simp (disch := first|omega|exact zE rfl|exact zO|exact zL rfl) [c42_o0, zG, q]
    refine W.seq (W.chunk ?_)
    simp (disch := first|omega|exact zE rfl|exact zO|exact zL rfl) [c42_o1, zG, q, k50, app_if, app_if', hH1]
    refine W.seq (W.chunk ?_)
    simp (disch := first|omega|exact zE rfl|exact zO|exact zL rfl) [c42_o2, zG, q, k51, app_if, app_if', hH2, gp, ep, ep', lp]
    refine W.assoc ?_
    refine W.seq (W.chunk ?_)
    simp (disch := first|omega|exact zE rfl|exact zO|exact zL rfl) [c42_o3, zG, q]
    refine W.seq (W.chunk ?_)
    simp (disch := first|omega|exact zE rfl|exact zO|exact zL rfl) [c42_o4, zG, q]
    refine W.seq (W.chunk ?_)
    simp (disch := first|omega|exact zE rfl|exact zO|exact zL rfl) [c42_o5, zG, q, k71, app_if, app_if', hH3]
    refine W.seq (W.chunk ?_)
    simp (disch := first|omega|exact zE rfl|exact zO|exact zL rfl) [c42_o6, zG, q]
    refine W.assoc ?_
    refine W.seq (W.chunk ?_)
    simp (disch := first|omega|exact zE rfl|exact zO|exact zL rfl) [c42_o7, zG, q]
    refine W.seq (W.block ?_)
    refine W.use (l0) (by simp (disch := first|omega|exact zE rfl|exact zO|exact zL rfl) [zG, q]) fun s1 H1 hp => ?_
    obtain ⟨xo, ng, q⟩ := hp
    try simp only [zW, if_true]
    refine W.seq (W.chunk ?_)
    simp (disch := first|omega|exact zE rfl|exact zO|exact zL rfl) [c42_o13, zG, q]
    refine W.ret ?_
    try simp only [zW, if_true]
    exact kR _ _ ⟨[xo, .bool true], by simp [T.get, c42, evRess, evRes, q], .inr ⟨c, xo, rfl, (NG.base (kp1.trans (kp2.trans kp3)) ng).fr1⟩⟩
end
theorem perN_le {M : List (List Int)} (hm : isMat M = true) {i : Nat} (hi : i < M.length) : perN M i ≤ 100 := by
  obtain ⟨p, l⟩ := pi_ex hm hi M.length (Nat.le_refl _)
  have h := l.done hm (ds_0 i) (fun z m => by obtain ⟨d, a, b, _⟩ := ds_mu hm hi m; exact ⟨d, a, b⟩)
  rw [perN_eq h]; exact l.b
def Post42 (a : AI) (h : Heap) (v : AV) (own : List AObj) : Prop := (perN a.M a.i = 0 ∧ v = .tup [.nils, .bool false] ∧ own = []) ∨ (perN a.M a.i ≠ 0 ∧ ∃ w, v = .tup [w, .bool true] ∧ NG h (h.plus own) w (lyL a.M a.i))
noncomputable def T34 : CallF := addK tbl T33 42 PreI Post42
theorem t34 : Sound Go.Proofs.Try.prog T34 := Sound.addK follows ok t33 (by decide) _ _
abbrev K42 (J : CallF) : Prop := ∀ (h : Heap) (a : AI), OkI a h → ∃ v own, J 42 [a.y, G a.i] h = some (v, own, false) ∧ Post42 a h v own
theorem k50_33 : K50 T33 := fun h a ha hm => by
  simp (disch := decide) only [T33, T32, T31, T30, T29, T28, T27, T26, T25, T24, T23, addK_ne]
  exact k50 h a ha hm
theorem k51_33 : K51 T33 := fun h a ha hm => by
  simp (disch := decide) only [T33, T32, T31, T30, T29, T28, T27, T26, addK_ne]
  exact k51 h a ha hm
theorem k71_33 : K71 T33 := fun h a ha => by
  simp (disch := decide) only [T33, T32, T31, T30, T29, T28, T27, T26, T25, addK_ne]
  exact k71 h a ha
theorem k42 : K42 T34 := fun h a ha => addK_some (Pre := PreI) (Post := Post42) (fun a args h hp => by
  obtain ⟨⟨hy, hm, hi⟩, rfl⟩ := hp
  exact c42_ok T33 k50_33 k51_33 k71_33 (fun _ _ => by simp (disch := decide) only [T33, T32, T31, T30, T29, T28, T27, T26, T25, T24, T23, T22, T21, T20, T19, T18, T17, T16, T15, T14, T13, T12, T11, T10, T9, T8, T7, T6, T5, T4, T3, T2, T1, R21, R20, R19, R18, R17, R16, R15, R14, R13, R12, R11, R10, R9, R8, R7, R6, R5, R4, R3, R2, R1, addI_ne, addX_ne, addV_ne, addK_ne]; rfl) h hy hm hi (perN_le hm hi)) a _ h ⟨ha, rfl⟩
section
variable {M : List (List Int)}
theorem c41_s (J : CallF) (k36 : K36 J) (hm : isMat M = true) {H : Heap} {y : AV} {b v i k : Nat} (e : y = .slice b 0 M.length v) (hy : MR H y M) (hi : i < M.length) (hk : k ≤ M.length) (hc : cw M i k i = false) :
    Tr tbl J (.trim [[], [false], [true, true]] c41_b0) (fun s h => h = H ∧ s.get [] = y ∧ s.get [false] = G i ∧ s.get [true, true] = G k) .normal (fun s h => h = H ∧ s.get [] = y ∧ s.get [false] = G i ∧ s.get [true, true] = G ((k + 1 : Nat) : Int)) := by
  have h8 := isMat_n hm
  obtain ⟨v', own, k36, p1, _⟩ := k36 H ⟨M, y, i, i, k⟩ ⟨hy, hm, hi, hi, by simp only; omega⟩
  obtain ⟨rfl, rfl⟩ := p1 hc
  simp only at k36
  clear hy
  subst e
  refine Tr.w fun s1 H1 hp R kR => W.trim ?_
  obtain ⟨rfl, q⟩ := hp
  refine W.assoc ?_
  refine W.seq (W.chunk ?_)
  simp (disch := first|omega|exact zE rfl|exact zO|exact zL rfl) [c41_o2, zG, q]
  refine W.seq (W.chunk ?_)
  simp (disch := first|omega|exact zE rfl|exact zO|exact zL rfl) [zG, q]
  refine W.seq (W.block ?_)
  refine W.seq (W.chunk ?_)
  simp (disch := first|omega|exact zE rfl|exact zO|exact zL rfl) [c41_o3, zG, q, k36, app_if, app_if']
  refine W.seq (W.chunk ?_)
  simp (disch := first|omega|exact zE rfl|exact zO|exact zL rfl) [c41_o4, zG, q]
  refine W.chunk ?_
  simp (disch := first|omega|exact zE rfl|exact zO|exact zL rfl) [c41_o5, zG, q]
  refine W.chunk ?_
  simp (disch := first|omega|exact zE rfl|exact zO|exact zL rfl) [c41_o6, zG, q]
  exact kR _ _ (by simp [T.get, q])
theorem c41_f (J : CallF) (k36 : K36 J) (hm : isMat M = true) {H : Heap} {y : AV} {b v i c : Nat} (e : y = .slice b 0 M.length v) (hy : MR H y M) (hi : i < M.length) (hc1 : c ≤ M.length) (hc : cw M i c i = true) (hl : ∀ k, 1 ≤ k → k < c → cw M i k i = false) : ∀ d k, k + d = c → 1 ≤ k →
    Tr tbl J c41_l0 (fun s h => h = H ∧ s.get [] = y ∧ s.get [false] = G i ∧ s.get [true, true] = G k) .ret (fun s h => ∃ w, NG H h w (wkL M i i c) ∧ s.get [true, false] = w ∧ s.get [false, true] = .bool true) := by
  have h8 := isMat_n hm
  intro d
  induction d with
  | zero =>
    intro k hk h1
    obtain rfl : k = c := by omega
    obtain ⟨v', own, k36, _, p2⟩ := k36 H ⟨M, y, i, i, k⟩ ⟨hy, hm, hi, hi, by simp only; omega⟩
    obtain ⟨w, rfl, ng⟩ := p2 hc
    simp only at k36 ng
    clear hy
    subst e
    refine Tr.out ?_ (by simp)
    refine Tr.w fun s1 H1 hp R kR => W.trim ?_
    obtain ⟨rfl, q⟩ := hp
    refine W.assoc ?_
    refine W.seq (W.chunk ?_)
    simp (disch := first|omega|exact zE rfl|exact zO|exact zL rfl) [c41_o2, zG, q]
    refine W.seq (W.chunk ?_)
    simp (disch := first|omega|exact zE rfl|exact zO|exact zL rfl) [zG, q]
    refine W.seq (W.block ?_)
    refine W.seq (W.chunk ?_)
    simp (disch := first|omega|exact zE rfl|exact zO|exact zL rfl) [c41_o3, zG, q, k36, app_if, app_if']
    refine W.seq (W.chunk ?_)
    simp (disch := first|omega|exact zE rfl|exact zO|exact zL rfl) [c41_o4, zG, q]
    refine W.chunk ?_
    simp (disch := first|omega|exact zE rfl|exact zO|exact zL rfl) [c41_o5, zG, q]
    exact kR _ _ ⟨w, ng, by simp [T.get, q]⟩
  | succ d ih =>
    intro k hk h1
    exact Tr.next (c41_s J k36 hm e hy hi (by omega) (hl k h1 (by omega))) (ih (k + 1) (by omega) (by omega))
theorem c41_n (J : CallF) (k36 : K36 J) (hm : isMat M = true) {H : Heap} {y : AV} {b v i : Nat} (e : y = .slice b 0 M.length v) (hy : MR H y M) (hi : i < M.length) (hl : ∀ k, 1 ≤ k → k ≤ M.length → cw M i k i = false) : ∀ d k, k + d = M.length + 1 → 1 ≤ k →
    Tr tbl J c41_l0 (fun s h => h = H ∧ s.get [] = y ∧ s.get [false] = G i ∧ s.get [true, true] = G k) (.exit 0) (fun s h => h = H) := by
  have h8 := isMat_n hm
  intro d
  induction d with
  | zero =>
    intro k hk h1
    subst e
    refine Tr.out ?_ (by simp)
    refine Tr.w fun s1 H1 hp R kR => W.trim ?_
    obtain ⟨rfl, q⟩ := hp
    refine W.assoc ?_
    refine W.seq (W.chunk ?_)
    simp (disch := first|omega|exact zE rfl|exact zO|exact zL rfl) [c41_o2, zG, q]
    refine W.seq (W.chunk ?_)
    simp (disch := first|omega|exact zE rfl|exact zO|exact zL rfl) [zG, q]
    exact kR _ _ rfl
  | succ d ih =>
    intro k hk h1
    exact Tr.next (c41_s J k36 hm e hy hi (by omega) (hl k h1 (by omega))) (ih (k + 1) (by omega) (by omega))
def cyc (M : List (List Int)) (i c : Nat) : Prop := 1 ≤ c ∧ c ≤ M.length ∧ cw M i c i = true ∧ ∀ k, 1 ≤ k → k < c → cw M i k i = false
theorem cyc_or (M : List (List Int)) (i : Nat) : (∃ c, cyc M i c) ∨ ∀ k, 1 ≤ k → k ≤ M.length → cw M i k i = false := by
  have : ∀ m, m ≤ M.length → (∃ c, cyc M i c) ∨ ∀ k, 1 ≤ k → k ≤ m → cw M i k i = false := fun m => by
    induction m with
    | zero => intro _; exact .inr fun k h1 h2 => by omega
    | succ m ih =>
      intro hm
      rcases ih (by omega) with h | h
      · exact .inl h
      · cases c : cw M i (m + 1) i
        · exact .inr fun k h1 h2 => by
            by_cases e : k = m + 1
            · subst e; exact c
            · exact h k h1 (by omega)
        · exact .inl ⟨m + 1, by omega, hm, c, fun k h1 h2 => h k h1 (by omega)⟩
  exact this M.length (Nat.le_refl _)
theorem c41_ok (J : CallF) (k36 : K36 J) (hJ : ∀ a h, J 41 a h = none) (h : Heap) {i : Nat} {y : AV} (hy : MR h y M) (hm : isMat M = true) (hi : i < M.length) : ∃ v own, CallsTo tbl J 41 [y, G i] h (v, own, false) ∧ (((∀ k, 1 ≤ k → k ≤ M.length → cw M i k i = false) ∧ v = .tup [.nils, .bool false] ∧ own = []) ∨ (∃ c, cyc M i c ∧ ∃ w, v = .tup [w, .bool true] ∧ NG h (h.plus own) w (wkL M i i c))) := by
  refine Tr.fny (cf := c41) (e := .ret) (s := T.set (T.set .leaf [] y) [false] (G i)) (by decide) rfl (hJ _ _) rfl rfl (by simp) ?_
  have h8 := isMat_n hm
  have hy0 : MR (frameOf h) y M := hy.lo []
  obtain ⟨b, v, cs, e, mx⟩ := hy0.mx hm
  refine Tr.w fun s1 H1 hp R kR => ?_
  obtain ⟨rfl, rfl⟩ := hp
  have q : True := trivial
  rcases cyc_or M i with ⟨c, hc⟩ | hc
  · have l0 := c41_f J k36 hm e hy0 hi hc.2.1 hc.2.2.1 hc.2.2.2 (c - 1) 1 (by have := hc.1; omega) (by omega)
    clear mx hy hy0
    subst e
    refine W.seq (W.chunk ?_)
    simp (disch := first|omega|exact zE rfl|exact zO|exact zL rfl) [c41_o0, zG, q]
    refine W.assoc ?_
    refine W.seq (W.chunk ?_)
    simp (disch := first|omega|exact zE rfl|exact zO|exact zL rfl) [c41_o1, zG, q]
    refine W.seq (W.block ?_)
    refine W.use (l0) (by simp (disch := first|omega|exact zE rfl|exact zO|exact zL rfl) [zG, q]) fun s1 H1 hp => ?_
    obtain ⟨w, ng, q⟩ := hp
    try simp only [zW, if_true]
    exact kR _ _ ⟨[w, .bool true], by simp [T.get, c41, evRess, evRes, q], .inr ⟨c, hc, w, rfl, ng.fr1⟩⟩
  · have l0 := c41_n J k36 hm e hy0 hi hc M.length 1 (by omega) (by omega)
    clear mx hy hy0
    subst e
    refine W.seq (W.chunk ?_)
    simp (disch := first|omega|exact zE rfl|exact zO|exact zL rfl) [c41_o0, zG, q]
    refine W.assoc ?_
    refine W.seq (W.chunk ?_)
    simp (disch := first|omega|exact zE rfl|exact zO|exact zL rfl) [c41_o1, zG, q]
    refine W.seq (W.block ?_)
    refine W.use (l0) (by simp (disch := first|omega|exact zE rfl|exact zO|exact zL rfl) [zG, q]) fun s1 H1 hp => ?_
    obtain rfl := hp
    try simp only [zW, if_true]
    refine W.seq (W.chunk ?_)
    simp (disch := first|omega|exact zE rfl|exact zO|exact zL rfl) [c41_o7, zG, q]
    refine W.ret ?_
    try simp only [zW, if_true]
    exact kR _ _ ⟨[.nils, .bool false], by simp [T.get, c41, evRess, evRes], .inl ⟨hc, rfl, rfl⟩⟩
theorem c37_s (J : CallF) (k66 : K66 J) (hm : isMat M = true) {H : Heap} {qm i k : Nat} (gm : H.get qm = .cells 0 65 (matC M)) (hi : i < M.length) (hk : k < M.length) (hc : cw M i (k + 1) i = false) :
    Tr tbl J (.trim [[false], [true, true], [true, true, false, true], [false, false, true, true]] c37_b0) (fun s h => h = H ∧ s.get [false] = G i ∧ s.get [true, true] = .ptr qm 0 65 ∧ s.get [true, true, false, true] = G M.length ∧ s.get [false, false, true, true] = G k) .normal (fun s h => h = H ∧ s.get [false] = G i ∧ s.get [true, true] = .ptr qm 0 65 ∧ s.get [true, true, false, true] = G M.length ∧ s.get [false, false, true, true] = G ((k + 1 : Nat) : Int)) := by
  have h8 := isMat_n hm
  have lm := matC_len M
  have et : (matC M).take 65 = matC M := List.take_of_length_le (by omega)
  obtain ⟨v', own, k66, p1, _⟩ := k66 H ⟨M, i, i, k + 1⟩ ⟨hm, hi, hi, by simp only; omega⟩
  obtain ⟨rfl, rfl⟩ := p1 hc
  simp only [Int.natCast_add, Int.natCast_one] at k66
  generalize matC M = cm at *
  refine Tr.w fun s1 H1 hp R kR => W.trim ?_
  obtain ⟨rfl, q⟩ := hp
  refine W.seq (W.chunk ?_)
  simp (disch := first|omega|exact zE rfl|exact zO|exact zL rfl) [c37_o5, zG, q]
  refine W.seq (W.chunk ?_)
  simp (disch := first|omega|exact zE rfl|exact zO|exact zL rfl) [zG, q]
  refine W.seq (W.block ?_)
  refine W.seq (W.chunk ?_)
  simp (disch := first|omega|exact zE rfl|exact zO|exact zL rfl) [c37_o6, zG, q]
  refine W.seq (W.chunk ?_)
  simp (disch := first|omega|exact zE rfl|exact zO|exact zL rfl) [c37_o7, zG, q, gm, et, lm, k66, app_if, app_if']
  refine W.seq (W.chunk ?_)
  simp (disch := first|omega|exact zE rfl|exact zO|exact zL rfl) [c37_o8, zG, q]
  refine W.chunk ?_
  simp (disch := first|omega|exact zE rfl|exact zO|exact zL rfl) [c37_o9, zG, q]
  refine W.chunk ?_
  simp (disch := first|omega|exact zE rfl|exact zO|exact zL rfl) [c37_o10, zG, q]
  exact kR _ _ (by simp [T.get, q])
theorem c37_f (J : CallF) (k66 : K66 J) (hm : isMat M = true) {H : Heap} {qm i c : Nat} (gm : H.get qm = .cells 0 65 (matC M)) (hi : i < M.length) (hc : cyc M i c) : ∀ d k, k + d + 1 = c →
    Tr tbl J c37_l0 (fun s h => h = H ∧ s.get [false] = G i ∧ s.get [true, true] = .ptr qm 0 65 ∧ s.get [true, true, false, true] = G M.length ∧ s.get [false, false, true, true] = G k) .ret (fun s h => ∃ w, NG H h w (wkL M i i c) ∧ s.get [true, false] = w ∧ s.get [false, true] = G 0) := by
  have h8 := isMat_n hm
  have lm := matC_len M
  have et : (matC M).take 65 = matC M := List.take_of_length_le (by omega)
  obtain ⟨c1, c2, c3, c4⟩ := hc
  intro d
  induction d with
  | zero =>
    intro k hk
    obtain rfl : c = k + 1 := by omega
    obtain ⟨v', own, k66, _, p2⟩ := k66 H ⟨M, i, i, k + 1⟩ ⟨hm, hi, hi, by simp only; omega⟩
    have ng := p2 c3
    simp only [Int.natCast_add, Int.natCast_one] at k66 ng
    obtain ⟨bq, rfl, gq⟩ := ng.l.sl (by simp)
    generalize (gs ((i : Int) :: wlk M i (k + 1) i)).length = nn at *
    generalize matC M = cm at *
    refine Tr.out ?_ (by simp)
    refine Tr.w fun s1 H1 hp R kR => W.trim ?_
    obtain ⟨rfl, q⟩ := hp
    refine W.seq (W.chunk ?_)
    simp (disch := first|omega|exact zE rfl|exact zO|exact zL rfl) [c37_o5, zG, q]
    refine W.seq (W.chunk ?_)
    simp (disch := first|omega|exact zE rfl|exact zO|exact zL rfl) [zG, q]
    refine W.seq (W.block ?_)
    refine W.seq (W.chunk ?_)
    simp (disch := first|omega|exact zE rfl|exact zO|exact zL rfl) [c37_o6, zG, q]
    refine W.seq (W.chunk ?_)
    simp (disch := first|omega|exact zE rfl|exact zO|exact zL rfl) [c37_o7, zG, q, gm, et, lm, k66, app_if, app_if']
    refine W.seq (W.chunk ?_)
    simp (disch := first|omega|exact zE rfl|exact zO|exact zL rfl) [c37_o8, zG, q]
    refine W.chunk ?_
    simp (disch := first|omega|exact zE rfl|exact zO|exact zL rfl) [c37_o9, zG, q]
    exact kR _ _ ⟨_, ng, by simp [T.get, q]⟩
  | succ d ih =>
    intro k hk
    exact Tr.next (c37_s J k66 hm gm hi (by omega) (c4 (k + 1) (by omega) (by omega))) (ih (k + 1) (by omega))
theorem c37_n (J : CallF) (k66 : K66 J) (hm : isMat M = true) {H : Heap} {qm i : Nat} (gm : H.get qm = .cells 0 65 (matC M)) (hi : i < M.length) (hl : ∀ k, 1 ≤ k → k ≤ M.length → cw M i k i = false) : ∀ d k, k + d = M.length →
    Tr tbl J c37_l0 (fun s h => h = H ∧ s.get [false] = G i ∧ s.get [true, true] = .ptr qm 0 65 ∧ s.get [true, true, false, true] = G M.length ∧ s.get [false, false, true, true] = G k) (.exit 0) (fun s h => h = H) := by
  intro d
  induction d with
  | zero =>
    intro k hk
    refine Tr.out ?_ (by simp)
    refine Tr.w fun s1 H1 hp R kR => W.trim ?_
    obtain ⟨rfl, q⟩ := hp
    refine W.seq (W.chunk ?_)
    simp (disch := first|omega|exact zE rfl|exact zO|exact zL rfl) [c37_o5, zG, q]
    refine W.seq (W.chunk ?_)
    simp (disch := first|omega|exact zE rfl|exact zO|exact zL rfl) [zG, q]
    exact kR _ _ rfl
  | succ d ih =>
    intro k hk
    exact Tr.next (c37_s J k66 hm gm hi (by omega) (hl (k + 1) (by omega) (by omega))) (ih (k + 1) (by omega))
theorem c37_bad (J : CallF) (k54 : K54 J) (hJ : ∀ a h, J 37 a h = none) (h : Heap) (i : Int) {y : AV} (hy : MR h y M) (hm : isMat M = false) : CallsTo tbl J 37 [y, G i] h (.tup [.nils, G 2], [], false) := by
  refine Tr.fnv (cf := c37) (e := .ret) (s := T.set (T.set .leaf [] y) [false] (G i)) (by decide) rfl (hJ _ _) rfl rfl rfl (by simp) ?_
  obtain ⟨cs, k54, hl, hc⟩ := k54 ⟨h.get, h.size, []⟩ y M (hy.lo [])
  have rp : (List.replicate 65 (AV.int .i64 0)).length = 65 := List.length_replicate
  have ep : putAt (List.replicate 65 (AV.int .i64 0)) 0 cs = cs := putAt_all _ _ (by omega)
  refine Tr.w fun s1 H1 hp R kR => ?_
  obtain ⟨rfl, rfl⟩ := hp
  have q : True := trivial
  generalize hZ : List.replicate 65 (AV.int .i64 0) = Z at *
  rw [hm] at k54
  refine W.seq (W.chunk ?_)
  simp (disch := first|omega|exact zE rfl|exact zO|exact zL rfl) [-List.reduceReplicate, c37_o0, size_mk, get_mk_lt, get_mk_ge, frameOf, Eff.app, Heap.setOwn, q]
  refine W.seq (W.chunk ?_)
  simp (disch := first|omega|exact zE rfl|exact zO|exact zL rfl) [-List.reduceReplicate, c37_o1, size_mk, get_mk_lt, get_mk_ge, frameOf, Eff.app, Heap.setOwn, q, k54, hZ, ep, rp, hl, frameOf]
  refine W.assoc ?_
  refine W.seq (W.chunk ?_)
  simp (disch := first|omega|exact zE rfl|exact zO|exact zL rfl) [-List.reduceReplicate, c37_o2, size_mk, get_mk_lt, get_mk_ge, frameOf, Eff.app, Heap.setOwn, q]
  refine W.seq (W.chunk ?_)
  simp (disch := first|omega|exact zE rfl|exact zO|exact zL rfl) [-List.reduceReplicate, c37_o3, size_mk, get_mk_lt, get_mk_ge, frameOf, Eff.app, Heap.setOwn, q]
  exact kR _ _ ⟨[.nils, G 2], by simp [T.get, c37, evRess, evRes], rfl⟩
theorem c37_out (J : CallF) (k54 : K54 J) (k57 : K57 J) (hJ : ∀ a h, J 37 a h = none) (h : Heap) (i : Int) {y : AV} (hy : MR h y M) (hm : isMat M = true) (hi : ¬ (0 ≤ i ∧ i < M.length)) : CallsTo tbl J 37 [y, G i] h (.tup [.nils, G 2], [], false) := by
  refine Tr.fnv (cf := c37) (e := .ret) (s := T.set (T.set .leaf [] y) [false] (G i)) (by decide) rfl (hJ _ _) rfl rfl rfl (by simp) ?_
  have h8 := isMat_n hm
  obtain ⟨cs, k54, hl, hc⟩ := k54 ⟨h.get, h.size, []⟩ y M (hy.lo [])
  have rp : (List.replicate 65 (AV.int .i64 0)).length = 65 := List.length_replicate
  obtain rfl := hc hm
  have ep : putAt (List.replicate 65 (AV.int .i64 0)) 0 (matC M) = matC M := putAt_all _ _ (by omega)
  have e0 : (matC M)[0]? = some (G M.length) := rfl
  have e0' := getI e0
  have d : ¬ (0 ≤ i ∧ i ≤ (M.length : Int) - 1) := by omega
  have k57' := fun h => k57 i 0 ((M.length : Int) - 1) h
  rw [decide_eq_false d] at k57'
  refine Tr.w fun s1 H1 hp R kR => ?_
  obtain ⟨rfl, rfl⟩ := hp
  have q : True := trivial
  generalize hZ : List.replicate 65 (AV.int .i64 0) = Z at *
  rw [hm] at k54
  clear hi d
  generalize matC M = cm at *
  refine W.seq (W.chunk ?_)
  simp (disch := first|omega|exact zE rfl|exact zO|exact zL rfl) [-List.reduceReplicate, c37_o0, size_mk, get_mk_lt, get_mk_ge, frameOf, Eff.app, Heap.setOwn, q]
  refine W.seq (W.chunk ?_)
  simp (disch := first|omega|exact zE rfl|exact zO|exact zL rfl) [-List.reduceReplicate, c37_o1, size_mk, get_mk_lt, get_mk_ge, frameOf, Eff.app, Heap.setOwn, q, k54, hZ, ep, rp, hl, frameOf]
  refine W.assoc ?_
  refine W.seq (W.chunk ?_)
  simp (disch := first|omega|exact zE rfl|exact zO|exact zL rfl) [-List.reduceReplicate, c37_o2, size_mk, get_mk_lt, get_mk_ge, frameOf, Eff.app, Heap.setOwn, q, e0, e0', hl, k57', app_if, app_if']
  refine W.seq (W.chunk ?_)
  simp (disch := first|omega|exact zE rfl|exact zO|exact zL rfl) [-List.reduceReplicate, c37_o3, size_mk, get_mk_lt, get_mk_ge, frameOf, Eff.app, Heap.setOwn, q]
  exact kR _ _ ⟨[.nils, G 2], by simp [T.get, c37, evRess, evRes], rfl⟩
theorem c37_ok (J : CallF) (k54 : K54 J) (k57 : K57 J) (k66 : K66 J) (hJ : ∀ a h, J 37 a h = none) (h : Heap) {i : Nat} {y : AV} (hy : MR h y M) (hm : isMat M = true) (hi : i < M.length) : ∃ v own, CallsTo tbl J 37 [y, G i] h (v, own, false) ∧ (((∀ k, 1 ≤ k → k ≤ M.length → cw M i k i = false) ∧ v = .tup [.nils, G 6] ∧ own = []) ∨ (∃ c, cyc M i c ∧ ∃ w, v = .tup [w, G 0] ∧ NG h (h.plus own) w (wkL M i i c))) := by
  refine Tr.fny (cf := c37) (e := .ret) (s := T.set (T.set .leaf [] y) [false] (G i)) (by decide) rfl (hJ _ _) rfl rfl (by simp) ?_
  have h8 := isMat_n hm
  have fs := fr_size h
  obtain ⟨cs, k54, hl, hc⟩ := k54 (frameOf h) y M (hy.lo [])
  have rp : (List.replicate 65 (AV.int .i64 0)).length = 65 := List.length_replicate
  obtain rfl := hc hm
  have ep : putAt (List.replicate 65 (AV.int .i64 0)) 0 (matC M) = matC M := putAt_all _ _ (by omega)
  have e0 : (matC M)[0]? = some (G M.length) := rfl
  have e0' := getI e0
  have gm : ((frameOf h).plus [.cells 0 65 (matC M)]).get h.size = .cells 0 65 (matC M) := plus_at0 _ _ _ _ fs
  have d : 0 ≤ (i : Int) ∧ (i : Int) ≤ (M.length : Int) - 1 := by omega
  have k57' := fun h => k57 i 0 ((M.length : Int) - 1) h
  rw [decide_eq_true d] at k57'
  have kA : Kp (fun _ => False) (frameOf h) ((frameOf h).plus [.cells 0 65 (matC M)]) := Kp.plus _ _
  refine Tr.w fun s1 H1 hp R kR => ?_
  obtain ⟨rfl, rfl⟩ := hp
  have q : True := trivial
  generalize hZ : List.replicate 65 (AV.int .i64 0) = Z at *
  rw [hm] at k54
  clear d
  clear hc
  rcases cyc_or M i with ⟨c, hc⟩ | hc
  · have l0 := c37_f J k66 hm gm hi hc (c - 1) 0 (by have := hc.1; omega)
    generalize matC M = cm at *
    refine W.seq (W.chunk ?_)
    simp (disch := first|omega|exact zE rfl|exact zO|exact zL rfl) [-List.reduceReplicate, c37_o0, zG, q]
    refine W.seq (W.chunk ?_)
    simp (disch := first|omega|exact zE rfl|exact zO|exact zL rfl) [-List.reduceReplicate, c37_o1, zG, q, k54, hZ, ep, rp, hl, app_if, app_if', fs]
    refine W.assoc ?_
    refine W.seq (W.chunk ?_)
    simp (disch := first|omega|exact zE rfl|exact zO|exact zL rfl) [-List.reduceReplicate, c37_o2, zG, q, gm, e0, e0', hl, k57', app_if, app_if']
    refine W.seq (W.chunk ?_)
    simp (disch := first|omega|exact zE rfl|exact zO|exact zL rfl) [-List.reduceReplicate, c37_o3, zG, q]
    refine W.assoc ?_
    refine W.seq (W.chunk ?_)
    simp (disch := first|omega|exact zE rfl|exact zO|exact zL rfl) [-List.reduceReplicate, c37_o4, zG, q, gm, e0, e0', hl]
    refine W.seq (W.block ?_)
    refine W.use (l0) (by simp (disch := first|omega|exact zE rfl|exact zO|exact zL rfl) [-List.reduceReplicate, zG, q]) fun s1 H1 hp => ?_
    obtain ⟨w, ng, q⟩ := hp
    try simp only [zW, if_true]
    exact kR _ _ ⟨[w, G 0], by simp [T.get, c37, evRess, evRes, q], .inr ⟨c, hc, w, rfl, (NG.base kA ng).fr1⟩⟩
  · have l0 := c37_n J k66 hm gm hi hc M.length 0 (by omega)
    generalize matC M = cm at *
    refine W.seq (W.chunk ?_)
    simp (disch := first|omega|exact zE rfl|exact zO|exact zL rfl) [-List.reduceReplicate, c37_o0, zG, q]
    refine W.seq (W.chunk ?_)
    simp (disch := first|omega|exact zE rfl|exact zO|exact zL rfl) [-List.reduceReplicate, c37_o1, zG, q, k54, hZ, ep, rp, hl, app_if, app_if', fs]
    refine W.assoc ?_
    refine W.seq (W.chunk ?_)
    simp (disch := first|omega|exact zE rfl|exact zO|exact zL rfl) [-List.reduceReplicate, c37_o2, zG, q, gm, e0, e0', hl, k57', app_if, app_if']
    refine W.seq (W.chunk ?_)
    simp (disch := first|omega|exact zE rfl|exact zO|exact zL rfl) [-List.reduceReplicate, c37_o3, zG, q]
    refine W.assoc ?_
    refine W.seq (W.chunk ?_)
    simp (disch := first|omega|exact zE rfl|exact zO|exact zL rfl) [-List.reduceReplicate, c37_o4, zG, q, gm, e0, e0', hl]
    refine W.seq (W.block ?_)
    refine W.use (l0) (by simp (disch := first|omega|exact zE rfl|exact zO|exact zL rfl) [-List.reduceReplicate, zG, q]) fun s1 H1 hp => ?_
    obtain rfl := hp
    try simp only [zW, if_true]
    refine W.seq (W.chunk ?_)
    simp (disch := first|omega|exact zE rfl|exact zO|exact zL rfl) [-List.reduceReplicate, c37_o11, zG, q]
    refine W.ret ?_
    try simp only [zW, if_true]
    exact kR _ _ ⟨[.nils, G 6], by simp [T.get, c37, evRess, evRes], .inl ⟨hc, rfl, rfl⟩⟩
end
def noCyc (M : List (List Int)) (i : Nat) : Prop := ∀ k, 1 ≤ k → k ≤ M.length → cw M i k i = false
def Post37 (a : AL) (h : Heap) (v : AV) (own : List AObj) : Prop := (¬ inL a → v = .tup [.nils, G 2] ∧ own = []) ∧ (inL a → (noCyc a.M a.i.toNat ∧ v = .tup [.nils, G 6] ∧ own = []) ∨ (∃ c, cyc a.M a.i.toNat c ∧ ∃ w, v = .tup [w, G 0] ∧ NG h (h.plus own) w (wkL a.M a.i.toNat a.i.toNat c)))
noncomputable def T35 : CallF := addK tbl T34 37 PreL Post37
theorem t35 : Sound Go.Proofs.Try.prog T35 := Sound.addK follows ok t34 (by decide) _ _
abbrev K37 (J : CallF) : Prop := ∀ (h : Heap) (a : AL), MR h a.y a.M → ∃ v own, J 37 [a.y, G a.i] h = some (v, own, false) ∧ Post37 a h v own
theorem k54_34 : K54 T34 := fun h y M hy => by
  simp (disch := decide) only [T34, T33, T32, T31, T30, T29, T28, T27, T26, T25, T24, T23, T22, T21, T20, T19, T18, T17, T16, T15, T14, T13, T12, T11, T10, T9, T8, T7, T6, T5, T4, T3, T2, T1, R21, R20, R19, R18, R17, R16, R15, R14, R13, R12, R11, R10, R9, R8, R7, R6, R5, R4, R3, R2, R1, addI_ne, addX_ne, addV_ne, addK_ne]
  exact k54 h y M hy
theorem k57_34 : K57 T34 := fun n lo hi h => by
  simp (disch := decide) only [T34, T33, T32, T31, T30, T29, T28, T27, T26, T25, T24, T23, T22, T21, T20, T19, T18, T17, T16, T15, T14, T13, T12, T11, T10, T9, T8, T7, T6, T5, T4, T3, T2, T1, R21, R20, R19, R18, R17, R16, R15, R14, R13, R12, R11, R10, R9, R8, R7, R6, R5, R4, R3, R2, R1, addI_ne, addX_ne, addV_ne, addK_ne]
  exact k57 n lo hi h
theorem k66_34 : K66 T34 := fun h a ha => by
  simp (disch := decide) only [T34, T33, T32, T31, T30, T29, T28, T27, T26, T25, T24, T23, T22, T21, T20, T19, T18, T17, T16, T15, T14, T13, T12, T11, T10, T9, T8, addK_ne]
  exact k66 h a ha
theorem k37 : K37 T35 := fun h a ha => addK_some (Pre := PreL) (Post := Post37) (fun a args h hp => by
  obtain ⟨hy, rfl⟩ := hp
  have hn : ∀ a h, T34 37 a h = none := (fun _ _ => by simp (disch := decide) only [T34, T33, T32, T31, T30, T29, T28, T27, T26, T25, T24, T23, T22, T21, T20, T19, T18, T17, T16, T15, T14, T13, T12, T11, T10, T9, T8, T7, T6, T5, T4, T3, T2, T1, R21, R20, R19, R18, R17, R16, R15, R14, R13, R12, R11, R10, R9, R8, R7, R6, R5, R4, R3, R2, R1, addI_ne, addX_ne, addV_ne, addK_ne]; rfl)
  by_cases c : inL a
  · obtain ⟨c1, c2, c3⟩ := id c
    obtain ⟨i, hi⟩ : ∃ i : Nat, a.i = i := ⟨a.i.toNat, by omega⟩
    obtain ⟨v, own, e, p⟩ := c37_ok T34 k54_34 k57_34 k66_34 hn h hy c1 (i := i) (by omega)
    have hi2 : a.i.toNat = i := by omega
    exact ⟨v, own, by rw [hi]; exact e, fun n => absurd c n, fun _ => by rw [hi2]; exact p⟩
  · refine ⟨_, _, ?_, fun _ => ⟨rfl, rfl⟩, fun q => absurd q c⟩
    cases w : isMat a.M
    · exact c37_bad T34 k54_34 hn h a.i hy w
    · exact c37_out T34 k54_34 k57_34 hn h a.i hy w fun q => c ⟨w, q⟩) a _ h ⟨ha, rfl⟩
def Post41 (a : AI) (h : Heap) (v : AV) (own : List AObj) : Prop := (noCyc a.M a.i ∧ v = .tup [.nils, .bool false] ∧ own = []) ∨ (∃ c, cyc a.M a.i c ∧ ∃ w, v = .tup [w, .bool true] ∧ NG h (h.plus own) w (wkL a.M a.i a.i c))
noncomputable def T36 : CallF := addK tbl T35 41 PreI Post41
theorem t36 : Sound Go.Proofs.Try.prog T36 := Sound.addK follows ok t35 (by decide) _ _
abbrev K41 (J : CallF) : Prop := ∀ (h : Heap) (a : AI), OkI a h → ∃ v own, J 41 [a.y, G a.i] h = some (v, own, false) ∧ Post41 a h v own
theorem k36_35 : K36 T35 := fun h a ha => by
  simp (disch := decide) only [T35, T34, T33, T32, T31, T30, T29, T28, T27, T26, T25, T24, T23, T22, T21, T20, T19, T18, T17, T16, T15, T14, T13, T12, T11, T10, T9, addK_ne]
  exact k36 h a ha
theorem k41 : K41 T36 := fun h a ha => addK_some (Pre := PreI) (Post := Post41) (fun a args h hp => by
  obtain ⟨⟨hy, hm, hi⟩, rfl⟩ := hp
  exact c41_ok T35 k36_35 (fun _ _ => by simp (disch := decide) only [T35, T34, T33, T32, T31, T30, T29, T28, T27, T26, T25, T24, T23, T22, T21, T20, T19, T18, T17, T16, T15, T14, T13, T12, T11, T10, T9, T8, T7, T6, T5, T4, T3, T2, T1, R21, R20, R19, R18, R17, R16, R15, R14, R13, R12, R11, R10, R9, R8, R7, R6, R5, R4, R3, R2, R1, addI_ne, addX_ne, addV_ne, addK_ne]; rfl) h hy hm hi) a _ h ⟨ha, rfl⟩
section
variable {M : List (List Int)}
theorem noCyc_wk (hm : isMat M = true) {i : Nat} (hi : i < M.length) (h : noCyc M i) : ∀ k, Wk M k i i → k = 0
  | 0, _ => rfl
  | k + 1, w => by
    obtain ⟨v, e, w'⟩ := w
    obtain ⟨d, hd, wd⟩ := Rc.short hm (ent_lt hm e).2 ⟨k, w'⟩
    have := (cw_iff hm).2 (show Wk M (d + 1) i i from ⟨v, e, wd⟩)
    rw [h (d + 1) (by omega) (by omega)] at this
    cases this
theorem noCyc_per (hm : isMat M = true) {i : Nat} (hi : i < M.length) (h : noCyc M i) : perN M i = 0 := by
  have p := perN_ok hm hi
  have := p.2 0 fun k w => by rw [noCyc_wk hm hi h k w]; exact Nat.dvd_refl 0
  exact Nat.eq_zero_of_zero_dvd this
theorem cyc_per (hm : isMat M = true) {i c : Nat} (hi : i < M.length) (h : cyc M i c) : perN M i ≠ 0 ∧ perN M i ∣ c := by
  have p := (perN_ok hm hi).1 c ((cw_iff hm).1 h.2.2.1)
  refine ⟨fun e => ?_, p⟩
  rw [e] at p
  have := Nat.eq_zero_of_zero_dvd p
  have := h.1
  omega
theorem wlk_ln (j : Nat) : ∀ t u, (wlk M j t u).length = t
  | 0, _ => rfl
  | t + 1, u => by show (wlk M j t _).length + 1 = t + 1; rw [wlk_ln j t]
end
end Go.Proofs.Ytjeemgaoonapgaa.Ev
set_option linter.unusedVariables false
set_option linter.unusedSimpArgs false
namespace Go.Proofs.Ytjeemgaoonapgaa.Ev
open Go Go.AEv
def mxN (f : Nat → Nat) : Nat → Nat
  | 0 => 0
  | k + 1 => if mxN f k < f k then f k else mxN f k
theorem mxN_ge {f : Nat → Nat} : ∀ {k j}, j < k → f j ≤ mxN f k
  | 0, j, h => by omega
  | k + 1, j, h => by
    unfold mxN
    by_cases e : j = k
    · subst e; split <;> omega
    · have := mxN_ge (f := f) (k := k) (j := j) (by omega)
      split <;> omega
theorem mxN_le {f : Nat → Nat} {m : Nat} : ∀ {k}, (∀ j, j < k → f j ≤ m) → mxN f k ≤ m
  | 0, _ => Nat.zero_le _
  | k + 1, h => by
    have a := mxN_le (k := k) fun j hj => h j (by omega)
    have b := h k (by omega)
    unfold mxN
    split <;> omega
theorem mxN_congr {f g : Nat → Nat} : ∀ {k}, (∀ j, j < k → f j = g j) → mxN f k = mxN g k
  | 0, _ => rfl
  | k + 1, h => by unfold mxN; rw [mxN_congr (k := k) fun j hj => h j (by omega), h k (by omega)]
section
variable {M : List (List Int)}
noncomputable def rkN (M : List (List Int)) (i : Nat) : Nat := ct (fun u => Rc M i u) M.length
theorem rk_lt (hm : isMat M = true) {i j : Nat} (hi : i < M.length) (hj : j < M.length) (r : Rc M i j) (ne : clN M j ≠ clN M i) : rkN M j < rkN M i :=
  ct_lt (fun z _ h => r.trans h) hi (Rc.refl i) fun x => ne ((clN_eq hm hj hi).2 ⟨x, r⟩)
theorem rk_le (i : Nat) : rkN M i ≤ M.length := by
  unfold rkN
  refine Nat.le_trans (ct_le (q := fun _ => True) fun _ _ _ => trivial) ?_
  rw [ct_all fun _ _ => trivial]
  exact Nat.le_refl _
open Classical in
noncomputable def chF (M : List (List Int)) : Nat → Nat → Nat
  | 0, _ => 0
  | d + 1, i => mxN (fun j => if Rc M i j ∧ clN M j ≠ clN M i then chF M d j else 0) M.length + (if perN M i = 0 then 0 else 1)
theorem chF_eq (hm : isMat M = true) : ∀ d e i, i < M.length → rkN M i < d → rkN M i < e → chF M d i = chF M e i
  | 0, e, i, _, h, _ => by omega
  | d + 1, 0, i, _, _, h => by omega
  | d + 1, e + 1, i, hi, h1, h2 => by
    unfold chF
    congr 1
    refine mxN_congr fun j hj => ?_
    by_cases c : Rc M i j ∧ clN M j ≠ clN M i
    · have := rk_lt hm hi hj c.1 c.2
      rw [if_pos c, if_pos c, chF_eq hm d e j hj (by omega) (by omega)]
    · rw [if_neg c, if_neg c]
noncomputable def chv (M : List (List Int)) (i : Nat) : Nat := chF M (M.length + 1) i
open Classical in
noncomputable def chT (M : List (List Int)) (i j : Nat) : Nat := if Rc M i j ∧ clN M j ≠ clN M i then chv M j else 0
theorem chT_t {i j : Nat} (r : Rc M i j) (n : clN M j ≠ clN M i) : chT M i j = chv M j := if_pos ⟨r, n⟩
theorem chT_f {i j : Nat} (h : ¬ (Rc M i j ∧ clN M j ≠ clN M i)) : chT M i j = 0 := if_neg h
theorem chv_eq (hm : isMat M = true) {i : Nat} (hi : i < M.length) : chv M i = mxN (chT M i) M.length + (if perN M i = 0 then 0 else 1) := by
  have hr := rk_le (M := M) i
  show chF M (M.length + 1) i = _
  unfold chF
  congr 1
  refine mxN_congr fun j hj => ?_
  by_cases c : Rc M i j ∧ clN M j ≠ clN M i
  · have := rk_lt hm hi hj c.1 c.2
    rw [if_pos c, chT_t c.1 c.2, chF_eq hm M.length (M.length + 1) j hj (by omega) (by omega)]
    rfl
  · rw [if_neg c, chT_f c]
theorem perN_mu (hm : isMat M = true) {i k : Nat} (hi : i < M.length) (m : Mu M i k) : perN M k = perN M i := perN_eq ((perN_ok hm hi).mu m)
theorem chv_mu (hm : isMat M = true) {i k : Nat} (hi : i < M.length) (hk : k < M.length) (m : Mu M i k) : chv M i = chv M k := by
  rw [chv_eq hm hi, chv_eq hm hk, perN_mu hm hi m]
  congr 1
  refine mxN_congr fun j hj => ?_
  have e := (clN_eq hm hi hk).2 m
  by_cases c : Rc M i j ∧ clN M j ≠ clN M i
  · rw [chT_t c.1 c.2, chT_t (m.2.trans c.1) (by rw [← e]; exact c.2)]
  · rw [chT_f c, chT_f fun q => c ⟨m.1.trans q.1, by rw [e]; exact q.2⟩]
theorem chv_le (hm : isMat M = true) : ∀ r i, i < M.length → rkN M i = r → chv M i ≤ r := fun r => by
  induction r using Nat.strongRecOn with
  | _ r ih =>
    intro i hi e
    have p : 0 < rkN M i := by
      have := ct_lt (p := fun _ => False) (q := fun u => Rc M i u) (k := M.length) (fun _ _ h => h.elim) hi (Rc.refl i) id
      unfold rkN; omega
    have : mxN (chT M i) M.length ≤ r - 1 := mxN_le fun j hj => by
      by_cases c : Rc M i j ∧ clN M j ≠ clN M i
      · have l := rk_lt hm hi hj c.1 c.2
        have := ih _ (by omega) j hj rfl
        rw [chT_t c.1 c.2]; omega
      · rw [chT_f c]; omega
    rw [chv_eq hm hi]
    split <;> omega
theorem chv_bd (hm : isMat M = true) {i : Nat} (hi : i < M.length) : chv M i ≤ M.length := Nat.le_trans (chv_le hm _ i hi rfl) (rk_le i)
open Classical in
noncomputable def chR (M : List (List Int)) (c j : Nat) : Nat := if clN M j = j ∧ j ≠ c ∧ Rc M c j then chv M j else 0
theorem chR_t {c j : Nat} (h : clN M j = j ∧ j ≠ c ∧ Rc M c j) : chR M c j = chv M j := if_pos h
theorem chR_f {c j : Nat} (h : ¬ (clN M j = j ∧ j ≠ c ∧ Rc M c j)) : chR M c j = 0 := if_neg h
theorem mx_rep (hm : isMat M = true) {c : Nat} (hc : c < M.length) (e : clN M c = c) : mxN (chR M c) M.length = mxN (chT M c) M.length := by
  refine Nat.le_antisymm (mxN_le fun j hj => ?_) (mxN_le fun j hj => ?_)
  · by_cases h : clN M j = j ∧ j ≠ c ∧ Rc M c j
    · rw [chR_t h, ← chT_t h.2.2 (by rw [h.1, e]; exact h.2.1)]
      exact mxN_ge hj
    · rw [chR_f h]; omega
  · by_cases h : Rc M c j ∧ clN M j ≠ clN M c
    · obtain ⟨l, m, _⟩ := clN_ok hm hj
      have hl : clN M j < M.length := by omega
      have : clN M (clN M j) = clN M j ∧ clN M j ≠ c ∧ Rc M c (clN M j) := ⟨clN_id hm hj, by rw [← e]; exact h.2, h.1.trans m.1⟩
      rw [chT_t h.1 h.2, chv_mu hm hj hl m, ← chR_t this]
      exact mxN_ge hl
    · rw [chT_f h]; omega
def dgF (M : List (List Int)) (j : Nat) : Nat → Int
  | 0 => 0
  | k + 1 => if clN M j = clN M k then dgF M j k + ent M j k else dgF M j k
def dg (M : List (List Int)) (j : Nat) : Int := dgF M j M.length
theorem dgF_bd (hm : isMat M = true) (j : Nat) : ∀ k : Nat, 0 ≤ dgF M j k ∧ dgF M j k ≤ 9 * k
  | 0 => ⟨Int.le_refl _, Int.le_refl _⟩
  | k + 1 => by
    have a := dgF_bd hm j k
    have b := ent_bd hm j k
    unfold dgF
    split <;> omega
theorem dgF_pos (hm : isMat M = true) (j : Nat) : ∀ k, 0 < dgF M j k ↔ ∃ z, z < k ∧ clN M j = clN M z ∧ 0 < ent M j z
  | 0 => ⟨fun h => (by have : (0 : Int) < 0 := h; omega), fun ⟨z, h, _⟩ => by omega⟩
  | k + 1 => by
    have ih := dgF_pos hm j k
    have a := dgF_bd hm j k
    have b := ent_bd hm j k
    constructor
    · intro h
      unfold dgF at h
      by_cases c : clN M j = clN M k
      · rw [if_pos c] at h
        by_cases d : 0 < ent M j k
        · exact ⟨k, by omega, c, d⟩
        · obtain ⟨z, h1, h2⟩ := ih.1 (by omega)
          exact ⟨z, by omega, h2⟩
      · rw [if_neg c] at h
        obtain ⟨z, h1, h2⟩ := ih.1 h
        exact ⟨z, by omega, h2⟩
    · rintro ⟨z, h1, h2, h3⟩
      unfold dgF
      by_cases e : z = k
      · subst e
        rw [if_pos h2]; omega
      · have := ih.2 ⟨z, by omega, h2, h3⟩
        split <;> omega
theorem per_dg (hm : isMat M = true) {i : Nat} (hi : i < M.length) : perN M i ≠ 0 ↔ ∃ j, j < M.length ∧ 0 < dg M j ∧ clN M j = clN M i := by
  constructor
  · intro h
    rcases cyc_or M i with ⟨c, hc⟩ | hc
    · obtain ⟨c, rfl⟩ : ∃ d, c = d + 1 := ⟨c - 1, by have := hc.1; omega⟩
      obtain ⟨v, e, w⟩ := (cw_iff hm).1 hc.2.2.1
      have hv := (ent_lt hm e).2
      have m : Mu M i v := ⟨Rc.one e, ⟨c, w⟩⟩
      exact ⟨i, hi, (dgF_pos hm i _).2 ⟨v, hv, (clN_eq hm hi hv).2 m, e⟩, rfl⟩
    · exact absurd (noCyc_per hm hi hc) h
  · rintro ⟨j, hj, d, e⟩ h0
    obtain ⟨z, hz, c, p⟩ := (dgF_pos hm j _).1 d
    obtain ⟨k, w⟩ := ((clN_eq hm hj hz).1 c).2
    have m : Mu M i j := (clN_eq hm hi hj).1 e.symm
    have := ((perN_ok hm hi).mu m).1 (k + 1) ⟨z, p, w⟩
    rw [h0] at this
    have := Nat.eq_zero_of_zero_dvd this
    omega
def bigD (M : List (List Int)) (i j : Nat) : Prop := j < M.length ∧ Rc M i j ∧ 1 < dg M j
open Classical in
noncomputable def gwV (M : List (List Int)) (i : Nat) : Int := if ∃ j, bigD M i j then -2 else (chv M i : Int) - 1
theorem gw_or (M : List (List Int)) (i : Nat) : (∃ j, bigD M i j ∧ ∀ k, k < j → ¬ bigD M i k) ∨ ∀ j, ¬ bigD M i j := by
  by_cases c : ∃ j, bigD M i j
  · obtain ⟨j, hj⟩ := c
    obtain ⟨m, _, a, b⟩ := leastN j hj
    exact .inl ⟨m, a, b⟩
  · exact .inr fun j h => c ⟨j, h⟩
theorem gw_t {i j : Nat} (h : bigD M i j) : gwV M i = -2 := if_pos ⟨j, h⟩
theorem gw_f {i : Nat} (h : ∀ j, ¬ bigD M i j) : gwV M i = (chv M i : Int) - 1 := if_neg fun ⟨j, q⟩ => h j q
end
end Go.Proofs.Ytjeemgaoonapgaa.Ev
set_option linter.unusedVariables false
set_option linter.unusedSimpArgs false
namespace Go.AEv
open Classical in
noncomputable def pt (I : CallF) (f : Nat) (args : List AV) (h : Heap) (x : AV × List AObj × Bool) : CallF := fun g a k => if g = f ∧ a = args ∧ k = h then some x else I g a k
section
variable {tbl : Nat → Option CFunc} {I : CallF} {f : Nat} {args : List AV} {h : Heap} {x : AV × List AObj × Bool}
theorem pt_at : pt I f args h x f args h = some x := if_pos ⟨rfl, rfl, rfl⟩
theorem pt_ne {g : Nat} {a : List AV} {k : Heap} (hg : g ≠ f) : pt I f args h x g a k = I g a k := if_neg fun q => hg q.1
theorem pt_le {m : Nat} (hf : f ≠ 0) (hc : (evW tbl I m).call f args h = some x) : ∀ n, RecLe (evW tbl (pt I f args h x) n) (evW tbl I (m + n))
  | 0 => ⟨fun _ _ _ _ h => (by simp [evW] at h), fun _ _ _ _ h => (by simp [evW] at h)⟩
  | n + 1 => by
    have ih := pt_le hf hc n
    refine ⟨fun g a k y e => ?_, fun c s h x e => evCode_mono ih c e⟩
    cases g with
    | zero =>
      cases a with
      | nil => exact e
      | cons v rest =>
        cases v with
        | yld l =>
          have e' : (match evRound (evW tbl (pt I f args h x) n) l rest k with | some (v, h') => some (v, h'.own, true) | none => none) = some y := e
          show (match evRound (evW tbl I (m + n)) l rest k with | some (v, h') => some (v, h'.own, true) | none => none) = some y
          cases ha : evRound (evW tbl (pt I f args h x) n) l rest k with
          | none => rw [ha] at e'; cases e'
          | some q => rw [ha] at e'; rw [evRound_mono ih ha]; exact e'
        | _ => exact e
    | succ g =>
      have e' : (match pt I f args h x (g + 1) a k with | some x => some x | none => callBody tbl (evW tbl (pt I f args h x) n) (g + 1) a k) = some y := e
      by_cases c : g + 1 = f ∧ a = args ∧ k = h
      · obtain ⟨rfl, rfl, rfl⟩ := c
        rw [pt_at] at e'
        cases e'
        exact (evW_le' (by omega)).call _ _ _ _ hc
      · rw [show pt I f args h x (g + 1) a k = I (g + 1) a k from if_neg c] at e'
        show (match I (g + 1) a k with | some x => some x | none => callBody tbl (evW tbl I (m + n)) (g + 1) a k) = some y
        cases hi : I (g + 1) a k with
        | some z => rw [hi] at e'; exact e'
        | none => rw [hi] at e'; exact callBody_mono ih e'
theorem W.point {c : CCode} {s : T} {k : Heap} {Q : PQ} (hf : f ≠ 0) (hc : CallsTo tbl I f args h x) (w : W tbl (pt I f args h x) c s k Q) : W tbl I c s k Q := by
  obtain ⟨m, hc⟩ := hc
  obtain ⟨e, s', h', ⟨n, r⟩, q⟩ := w
  exact ⟨e, s', h', ⟨m + n, evCode_mono (pt_le hf hc n) c r⟩, q⟩
theorem Tr.shr {cf : CFunc} {s : T} {v : AV} {e : AExit} {R : Heap → Prop} (hf : f ≠ 0) (ht : tbl f = some cf) (hi : I f args h = none) (hsh : cf.shared = true) (hs : initS cf.params args .leaf = some s)
    (he : ∀ i, e ≠ .exit i) (hb : Tr tbl I cf.body (fun s' h' => s' = s ∧ h' = h) e (fun s' h' => R h' ∧ ∃ vs, evRess h' s' cf.results = some vs ∧ one vs = v)) : ∃ h', R h' ∧ CallsTo tbl I f args h (v, h'.own, true) := by
  obtain ⟨s1, h1, r1, hr, vs, q1, rfl⟩ := hb s h ⟨rfl, rfl⟩
  exact ⟨h1, hr, CallsTo.shared hf ht hi hsh hs r1 he q1⟩
theorem all_eq {M : Nat → Prop} {h h' : Heap} (k : Kp M h h') : (⟨h.lo, h.N, h'.own⟩ : Heap) = h' := by
  have a := k.lo
  have b := k.N
  cases h; cases h'
  simp only at a b
  subst a; subst b
  rfl
end
end Go.AEv
namespace Go.Proofs.Ytjeemgaoonapgaa.Ev
open Go Go.AEv
def sv (g : Nat → Int) (L : List Nat) : List (AV × AV) := L.map fun (c : Nat) => (G c, G (g c))
theorem find_sv (g : Nat → Int) (k : Nat) : ∀ L : List Nat, findA (G k) (sv g L) = some (if k ∈ L then some (G (g k)) else none)
  | [] => rfl
  | c :: L => by
    show (match aveq (G k) (G c) with | some true => some (some (G (g c))) | some false => findA (G k) (sv g L) | none => none) = _
    rw [aveq_n]
    by_cases e : k = c
    · subst e
      simp
    · rw [beq_eq_false_iff_ne.2 e]
      simp only
      rw [find_sv g k L]
      simp [e]
theorem put_sv (g : Nat → Int) (k : Nat) : ∀ L : List Nat, putMap (G k) (G (g k)) (sv g L) = some (sv g (ins k L))
  | [] => rfl
  | c :: L => by
    show (match aveq (G k) (G c) with | some true => some ((G k, G (g k)) :: sv g L) | some false => (putMap (G k) (G (g k)) (sv g L)).map ((G c, G (g c)) :: ·) | none => none) = _
    rw [aveq_n]
    by_cases e : k = c
    · subst e
      simp [ins, sv]
    · rw [beq_eq_false_iff_ne.2 e]
      simp only
      rw [put_sv g k L]
      unfold ins
      by_cases m : k ∈ L
      · rw [if_pos m, if_pos (List.mem_cons_of_mem _ m)]; rfl
      · rw [if_neg m, if_neg (by simp [e, m])]; rfl
end Go.Proofs.Ytjeemgaoonapgaa.Ev
set_option linter.unusedVariables false
set_option linter.unusedSimpArgs false
namespace Go.Proofs.Ytjeemgaoonapgaa.Ev
open Go Go.AEv
attribute [local simp] evFunc initS evOps_c evTrim_c evSkip_c evExit_c evRet_c evSeq_c evCond_c evBlock_c evDraw_c runOps_n runOps_c exec_n exec_g pure1_c act AOpd.ev T.get T.set T.put evBin evUn forceT_eq forceV_eq forceL_eq evRess evRes one keep runFP_n runFP_c app_none AV.flats AV.flat came_some List.getElem?_cons_zero List.getElem?_cons_succ beqT wrapI idxI tdivI tmodI decT decF ibT ibF inT inF evScope_c if_pos if_neg Cm_some thenW_n thenW_e thenW_r blkW_n blkW_e blkW_r goI kn putAt AV.cells fillA loadA takeA mk Eff.isAll Eff.isNone Eff.commutes Eff.spares okPair apart eqAgg fits LK.fits allEq aveq eqk mmA
theorem fr_at {h : Heap} {b : Nat} {x : AObj} (e : h.get b = x) (hx : x ≠ .hole) : (frameOf h).get b = x := by
  unfold frameOf
  rw [fr_get]
  exact plus_keep [] e hx
structure C70 (h : Heap) (M : List (List Int)) (qc qp ql : Nat) (rs : List AV) : Prop where
  gc : h.get qc = .cells 1 M.length (gs (clsL M))
  gp : h.get qp = .cells 1 M.length (gs (pdL M))
  ld : LD h M ql rs
section
variable {M : List (List Int)}
theorem C70.fr {h : Heap} {qc qp ql : Nat} {rs : List AV} (c : C70 h M qc qp ql rs) : C70 (frameOf h) M qc qp ql rs :=
  ⟨fr_at c.gc (by simp), fr_at c.gp (by simp), fr_at c.ld.g (by simp), fun i hi => by obtain ⟨b, e1, e2⟩ := c.ld.r i hi; exact ⟨b, e1, fr_at e2 (by simp)⟩⟩
theorem c70_l (J : CallF) (hm : isMat M = true) {H : Heap} {b v qc qp ql i : Nat} {rs : List AV} (c : C70 H M qc qp ql rs) (hi : i < M.length)
    (ih : ∀ j, j < M.length → Rc M i j → clN M j ≠ clN M i → CallsTo tbl J 70 [.slice b 0 M.length v, .slice qc 0 M.length M.length, .slice qp 0 M.length M.length, .slice ql 0 M.length M.length, G j] H (G (chv M j), [], false)) :
    Tr tbl J c70_l0 (fun s h => h = H ∧ s.get [] = .slice b 0 M.length v ∧ s.get [false] = .slice qc 0 M.length M.length ∧ s.get [true] = .slice qp 0 M.length M.length ∧ s.get [false, false] = .slice ql 0 M.length M.length ∧ s.get [true, false] = G i ∧ s.get [false, false, true] = G ((mxN (chT M i) 0 : Nat) : Int) ∧ s.get [true, false, true] = G ((0 : Nat) : Int)) (.exit 0)
      (fun s h => h = H ∧ s.get [true] = .slice qp 0 M.length M.length ∧ s.get [true, false] = G i ∧ s.get [false, false, true] = G (mxN (chT M i) M.length)) := by
  have h8 := isMat_n hm
  refine Tr.rounds (P := fun j => (fun s h => h = H ∧ s.get [] = .slice b 0 M.length v ∧ s.get [false] = .slice qc 0 M.length M.length ∧ s.get [true] = .slice qp 0 M.length M.length ∧ s.get [false, false] = .slice ql 0 M.length M.length ∧ s.get [true, false] = G i ∧ s.get [false, false, true] = G (mxN (chT M i) j) ∧ s.get [true, false, true] = G j)) (M := M.length) (fun j hj => ?_) ?_ (by simp) 0 (by omega)
  · refine Tr.w fun s1 H1 hp R kR => W.trim ?_
    obtain ⟨rfl, q⟩ := hp
    obtain ⟨rb, er, gr⟩ := c.ld.r i hi
    have gq := c.ld.g
    have gc := c.gc
    have er' := getI er
    have el : ∀ x, ldF M (i * 8 + j) = x → (bls (fun z => ldF M (i * 8 + z)) M.length)[j]? = some (.bool x) := fun x e => bls_getN (fun z => ldF M (i * 8 + z)) hj e
    have ci : (gs (clsL M))[i]? = some (G (clN M i)) := gl_at _ hi
    have cj : (gs (clsL M))[j]? = some (G (clN M j)) := gl_at _ hj
    have ci' := getI ci
    have cj' := getI cj
    have lif := ldF_iff hm hi hj
    have bm : mxN (chT M i) j ≤ M.length := mxN_le fun z hz => by
      by_cases e : Rc M i z ∧ clN M z ≠ clN M i
      · rw [chT_t e.1 e.2]; exact chv_bd hm (by omega)
      · rw [chT_f e]; omega
    have bj := chv_bd hm hj
    have es : mxN (chT M i) (j + 1) = if mxN (chT M i) j < chT M i j then chT M i j else mxN (chT M i) j := rfl
    have ih := ih j hj
    simp only [es] at kR
    clear c
    cases hl : ldF M (i * 8 + j)
    · have nr : ¬ Rc M i j := fun r => by rw [lif.2 r] at hl; cases hl
      have a1 := el _ hl
      have a1' := getI a1
      rw [chT_f fun q => nr q.1] at kR
      rw [if_neg (Nat.not_lt_zero _)] at kR
      generalize mxN (chT M i) j = mx at *
      generalize clN M i = u at *
      generalize clN M j = w at *
      generalize gs (clsL M) = cc at *
      generalize bls (fun z => ldF M (i * 8 + z)) M.length = cl at *
      clear ih es lif hm el
      generalize M.length = n at *
      refine W.assoc ?_
      refine W.seq (W.chunk ?_)
      simp (disch := first|omega|exact zE rfl|exact zO|exact zL rfl) [c70_o3, zG, q]
      refine W.seq (W.chunk ?_)
      simp (disch := first|omega|exact zE rfl|exact zO|exact zL rfl) [zG, q]
      refine W.seq (W.block ?_)
      refine W.seq (W.chunk ?_)
      simp (disch := first|omega|exact zE rfl|exact zO|exact zL rfl) [c70_o4, zG, q, gq, er, er', gr, a1, a1', -evDraw_c, evDraw_0]
      refine W.chunk ?_
      simp (disch := first|omega|exact zE rfl|exact zO|exact zL rfl) [c70_o5, zG, q]
      refine W.chunk ?_
      simp (disch := first|omega|exact zE rfl|exact zO|exact zL rfl) [c70_o6, zG, q]
      exact kR _ _ (by simp [T.get, q])
    · have r : Rc M i j := lif.1 hl
      have a1 := el _ hl
      have a1' := getI a1
      by_cases e : clN M j = clN M i
      · rw [chT_f fun q => q.2 e] at kR
        rw [if_neg (Nat.not_lt_zero _)] at kR
        rw [e] at cj cj'
        generalize mxN (chT M i) j = mx at *
        generalize clN M i = u at *
        generalize gs (clsL M) = cc at *
        generalize bls (fun z => ldF M (i * 8 + z)) M.length = cl at *
        clear ih es lif hm el e
        generalize M.length = n at *
        refine W.assoc ?_
        refine W.seq (W.chunk ?_)
        simp (disch := first|omega|exact zE rfl|exact zO|exact zL rfl) [c70_o3, zG, q]
        refine W.seq (W.chunk ?_)
        simp (disch := first|omega|exact zE rfl|exact zO|exact zL rfl) [zG, q]
        refine W.seq (W.block ?_)
        refine W.seq (W.chunk ?_)
        simp (disch := first|omega|exact zE rfl|exact zO|exact zL rfl) [c70_o4, zG, q, gq, er, er', gr, a1, a1', gc, ci, ci', cj, cj', -evDraw_c, evDraw_0]
        refine W.chunk ?_
        simp (disch := first|omega|exact zE rfl|exact zO|exact zL rfl) [c70_o5, zG, q]
        refine W.chunk ?_
        simp (disch := first|omega|exact zE rfl|exact zO|exact zL rfl) [c70_o6, zG, q]
        exact kR _ _ (by simp [T.get, q])
      · refine W.point (by decide) (ih r e) ?_
        have k70 := pt_at (I := J) (f := 70) (args := [.slice b 0 M.length v, .slice qc 0 M.length M.length, .slice qp 0 M.length M.length, .slice ql 0 M.length M.length, G j]) (h := H1) (x := (G (chv M j), [], false))
        rw [chT_t r e] at kR
        generalize pt J 70 [.slice b 0 M.length v, .slice qc 0 M.length M.length, .slice qp 0 M.length M.length, .slice ql 0 M.length M.length, G j] H1 (G (chv M j), [], false) = J at *
        generalize mxN (chT M i) j = mx at *
        generalize clN M i = u at *
        generalize clN M j = w at *
        generalize chv M j = z at *
        generalize gs (clsL M) = cc at *
        generalize bls (fun z => ldF M (i * 8 + z)) M.length = cl at *
        clear ih es lif hm el
        generalize M.length = n at *
        by_cases lt : mx < z
        · rw [if_pos lt] at kR
          refine W.assoc ?_
          refine W.seq (W.chunk ?_)
          simp (disch := first|omega|exact zE rfl|exact zO|exact zL rfl) [c70_o3, zG, q]
          refine W.seq (W.chunk ?_)
          simp (disch := first|omega|exact zE rfl|exact zO|exact zL rfl) [zG, q]
          refine W.seq (W.block ?_)
          refine W.seq (W.chunk ?_)
          simp (disch := first|omega|exact zE rfl|exact zO|exact zL rfl) [c70_o4, zG, q, gq, er, er', gr, a1, a1', gc, ci, ci', cj, cj', -evDraw_c, evDraw_0]
          refine W.chunk ?_
          simp (disch := first|omega|exact zE rfl|exact zO|exact zL rfl) [c70_o5, zG, q, k70]
          refine W.chunk ?_
          simp (disch := first|omega|exact zE rfl|exact zO|exact zL rfl) [c70_o6, zG, q]
          exact kR _ _ (by simp [T.get, q])
        · rw [if_neg lt] at kR
          refine W.assoc ?_
          refine W.seq (W.chunk ?_)
          simp (disch := first|omega|exact zE rfl|exact zO|exact zL rfl) [c70_o3, zG, q]
          refine W.seq (W.chunk ?_)
          simp (disch := first|omega|exact zE rfl|exact zO|exact zL rfl) [zG, q]
          refine W.seq (W.block ?_)
          refine W.seq (W.chunk ?_)
          simp (disch := first|omega|exact zE rfl|exact zO|exact zL rfl) [c70_o4, zG, q, gq, er, er', gr, a1, a1', gc, ci, ci', cj, cj', -evDraw_c, evDraw_0]
          refine W.chunk ?_
          simp (disch := first|omega|exact zE rfl|exact zO|exact zL rfl) [c70_o5, zG, q, k70]
          refine W.chunk ?_
          simp (disch := first|omega|exact zE rfl|exact zO|exact zL rfl) [c70_o6, zG, q]
          exact kR _ _ (by simp [T.get, q])
  · refine Tr.w fun s1 H1 hp R kR => W.trim ?_
    obtain ⟨rfl, q⟩ := hp
    clear c ih
    generalize mxN (chT M i) M.length = mx at *
    generalize M.length = n at *
    refine W.assoc ?_
    refine W.seq (W.chunk ?_)
    simp (disch := first|omega|exact zE rfl|exact zO|exact zL rfl) [c70_o3, zG, q]
    refine W.seq (W.chunk ?_)
    simp (disch := first|omega|exact zE rfl|exact zO|exact zL rfl) [zG, q]
    exact kR _ _ (by simp [T.get, q])
theorem c70_ok (J : CallF) (hJ : ∀ a h, J 70 a h = none) (hm : isMat M = true) {b v qc qp ql : Nat} {rs : List AV} : ∀ r i, i < M.length → rkN M i = r → ∀ h, C70 h M qc qp ql rs → CallsTo tbl J 70 [.slice b 0 M.length v, .slice qc 0 M.length M.length, .slice qp 0 M.length M.length, .slice ql 0 M.length M.length, G i] h (G (chv M i), [], false) := fun r => by
  induction r using Nat.strongRecOn with
  | _ r ih =>
    intro i hi e h c
    have h8 := isMat_n hm
    refine Tr.fnv (cf := c70) (e := .ret) (s := T.set (T.set (T.set (T.set (T.set .leaf [] (.slice b 0 M.length v)) [false] (.slice qc 0 M.length M.length)) [true] (.slice qp 0 M.length M.length)) [false, false] (.slice ql 0 M.length M.length)) [true, false] (G i)) (by decide) rfl (hJ _ _) rfl rfl rfl (by simp) ?_
    have c := c.fr
    have l0 := c70_l (b := b) (v := v) J hm c hi fun j hj r1 ne => ih _ (by have := rk_lt hm hi hj r1 ne; omega) j hj rfl _ c
    have gp := c.gp
    have ei : (gs (pdL M))[i]? = some (G (perN M i)) := gl_at _ hi
    have ei' := getI ei
    have lp : (gs (pdL M)).length = M.length := gl_len _ _
    have bd := chv_bd hm hi
    have ce := chv_eq hm hi
    have bm : mxN (chT M i) M.length ≤ M.length := by omega
    rw [ce]
    refine Tr.w fun s1 H1 hp R kR => ?_
    obtain ⟨rfl, rfl⟩ := hp
    have q : True := trivial
    clear c ih ce
    rw [show mxN (chT M i) 0 = 0 from rfl] at l0
    generalize mxN (chT M i) M.length = mx at *
    generalize gs (pdL M) = cp at *
    generalize perN M i = p at *
    clear hm bd e
    generalize M.length = n at *
    by_cases hp : p = 0
    · subst hp
      refine W.seq (W.chunk ?_)
      simp (disch := first|omega|exact zE rfl|exact zO|exact zL rfl) [c70_o0, zG, q]
      refine W.seq (W.chunk ?_)
      simp (disch := first|omega|exact zE rfl|exact zO|exact zL rfl) [c70_o1, zG, q]
      refine W.assoc ?_
      refine W.seq (W.chunk ?_)
      simp (disch := first|omega|exact zE rfl|exact zO|exact zL rfl) [c70_o2, zG, q]
      refine W.seq (W.block ?_)
      refine W.use (l0) (by simp (disch := first|omega|exact zE rfl|exact zO|exact zL rfl) [zG, q]) fun s1 H1 hp => ?_
      obtain ⟨rfl, q⟩ := hp
      try simp only [zW, if_true]
      refine W.seq (W.chunk ?_)
      simp (disch := first|omega|exact zE rfl|exact zO|exact zL rfl) [c70_o7, zG, q, gp, ei, ei', lp]
      refine W.ret ?_
      try simp only [zW, if_true]
      exact kR _ _ ⟨[G mx], by simp [T.get, c70, evRess, evRes], rfl⟩
    · by_cases hp2 : 1 < p
      · refine W.seq (W.chunk ?_)
        simp (disch := first|omega|exact zE rfl|exact zO|exact zL rfl) [c70_o0, zG, q]
        refine W.seq (W.chunk ?_)
        simp (disch := first|omega|exact zE rfl|exact zO|exact zL rfl) [c70_o1, zG, q]
        refine W.assoc ?_
        refine W.seq (W.chunk ?_)
        simp (disch := first|omega|exact zE rfl|exact zO|exact zL rfl) [c70_o2, zG, q]
        refine W.seq (W.block ?_)
        refine W.use (l0) (by simp (disch := first|omega|exact zE rfl|exact zO|exact zL rfl) [zG, q]) fun s1 H1 hp => ?_
        obtain ⟨rfl, q⟩ := hp
        try simp only [zW, if_true]
        refine W.seq (W.chunk ?_)
        simp (disch := first|omega|exact zE rfl|exact zO|exact zL rfl) [c70_o7, zG, q, gp, ei, ei', lp]
        refine W.ret ?_
        try simp only [zW, if_true]
        exact kR _ _ ⟨[G (mx + 1 : Nat)], by simp [T.get, c70, evRess, evRes], by simp [one, hp]⟩
      · obtain rfl : p = 1 := by omega
        refine W.seq (W.chunk ?_)
        simp (disch := first|omega|exact zE rfl|exact zO|exact zL rfl) [c70_o0, zG, q]
        refine W.seq (W.chunk ?_)
        simp (disch := first|omega|exact zE rfl|exact zO|exact zL rfl) [c70_o1, zG, q]
        refine W.assoc ?_
        refine W.seq (W.chunk ?_)
        simp (disch := first|omega|exact zE rfl|exact zO|exact zL rfl) [c70_o2, zG, q]
        refine W.seq (W.block ?_)
        refine W.use (l0) (by simp (disch := first|omega|exact zE rfl|exact zO|exact zL rfl) [zG, q]) fun s1 H1 hp => ?_
        obtain ⟨rfl, q⟩ := hp
        try simp only [zW, if_true]
        refine W.seq (W.chunk ?_)
        simp (disch := first|omega|exact zE rfl|exact zO|exact zL rfl) [c70_o7, zG, q, gp, ei, ei', lp]
        refine W.ret ?_
        try simp only [zW, if_true]
        exact kR _ _ ⟨[G (mx + 1 : Nat)], by simp [T.get, c70, evRess, evRes], by simp [one]⟩
end
section
variable {M : List (List Int)}
theorem c40_k (J : CallF) (hm : isMat M = true) {H : Heap} {b v qc j i : Nat} {xp xl : AV} {cs : List AV} (mx : MX H M b v cs) (gc : H.get qc = .cells 1 M.length (gs (clsL M))) (hj : j < M.length) :
    Tr tbl J c40_l0 (fun s h => h = H ∧ s.get [] = .slice b 0 M.length v ∧ s.get [false] = G i ∧ s.get [false, true] = .slice qc 0 M.length M.length ∧ s.get [true, true] = xp ∧ s.get [false, false, false] = xl ∧ s.get [true, false, false] = G j ∧ s.get [false, true, false] = G (dgF M j 0) ∧ s.get [true, true, false] = G ((0 : Nat) : Int)) (.exit 2)
      (fun s h => h = H ∧ s.get [] = .slice b 0 M.length v ∧ s.get [false] = G i ∧ s.get [false, true] = .slice qc 0 M.length M.length ∧ s.get [true, true] = xp ∧ s.get [false, false, false] = xl ∧ s.get [true, false, false] = G j ∧ s.get [false, true, false] = G (dg M j)) := by
  have h8 := isMat_n hm
  refine Tr.rounds (P := fun k => (fun s h => h = H ∧ s.get [] = .slice b 0 M.length v ∧ s.get [false] = G i ∧ s.get [false, true] = .slice qc 0 M.length M.length ∧ s.get [true, true] = xp ∧ s.get [false, false, false] = xl ∧ s.get [true, false, false] = G j ∧ s.get [false, true, false] = G (dgF M j k) ∧ s.get [true, true, false] = G k)) (M := M.length) (fun k hk => ?_) ?_ (by simp) 0 (by omega)
  · refine Tr.w fun s1 H1 hp R kR => W.trim ?_
    obtain ⟨rfl, q⟩ := hp
    obtain ⟨rb, rv, er, gr⟩ := mx.r j hj
    have gb := mx.g
    have ee := row_at hm hj hk
    have er' := getI er
    have ee' := getI ee
    have ci : (gs (clsL M))[j]? = some (G (clN M j)) := gl_at _ hj
    have ck : (gs (clsL M))[k]? = some (G (clN M k)) := gl_at _ hk
    have ci' := getI ci
    have ck' := getI ck
    have bd := dgF_bd hm j k
    have be := ent_bd hm j k
    have es : dgF M j (k + 1) = if clN M j = clN M k then dgF M j k + ent M j k else dgF M j k := rfl
    rw [es] at kR
    clear mx es
    generalize dgF M j k = d at *
    generalize ent M j k = e at *
    generalize gs (M.getD j []) = cr at *
    by_cases c : clN M j = clN M k
    · rw [if_pos c] at kR
      rw [← c] at ck ck'
      clear c
      generalize clN M j = u at *
      generalize gs (clsL M) = cc at *
      generalize M.length = n at *
      refine W.assoc ?_
      refine W.seq (W.chunk ?_)
      simp (disch := first|omega|exact zE rfl|exact zO|exact zL rfl) [c40_o6, zG, q]
      refine W.seq (W.chunk ?_)
      simp (disch := first|omega|exact zE rfl|exact zO|exact zL rfl) [zG, q]
      refine W.seq (W.block ?_)
      refine W.seq (W.chunk ?_)
      simp (disch := first|omega|exact zE rfl|exact zO|exact zL rfl) [c40_o7, zG, q, gc, ci, ci', ck, ck', -evDraw_c, evDraw_0]
      refine W.chunk ?_
      simp (disch := first|omega|exact zE rfl|exact zO|exact zL rfl) [c40_o8, zG, q, gb, er, er', gr, ee, ee']
      refine W.chunk ?_
      simp (disch := first|omega|exact zE rfl|exact zO|exact zL rfl) [c40_o9, zG, q]
      exact kR _ _ (by simp [T.get, q])
    · rw [if_neg c] at kR
      generalize clN M j = u at *
      generalize clN M k = w at *
      generalize gs (clsL M) = cc at *
      generalize M.length = n at *
      refine W.assoc ?_
      refine W.seq (W.chunk ?_)
      simp (disch := first|omega|exact zE rfl|exact zO|exact zL rfl) [c40_o6, zG, q]
      refine W.seq (W.chunk ?_)
      simp (disch := first|omega|exact zE rfl|exact zO|exact zL rfl) [zG, q]
      refine W.seq (W.block ?_)
      refine W.seq (W.chunk ?_)
      simp (disch := first|omega|exact zE rfl|exact zO|exact zL rfl) [c40_o7, zG, q, gc, ci, ci', ck, ck', -evDraw_c, evDraw_0]
      refine W.chunk ?_
      simp (disch := first|omega|exact zE rfl|exact zO|exact zL rfl) [c40_o8, zG, q]
      refine W.chunk ?_
      simp (disch := first|omega|exact zE rfl|exact zO|exact zL rfl) [c40_o9, zG, q]
      exact kR _ _ (by simp [T.get, q])
  · refine Tr.w fun s1 H1 hp R kR => W.trim ?_
    obtain ⟨rfl, q⟩ := hp
    clear mx gc
    rw [show dg M j = dgF M j M.length from rfl] at kR
    generalize dgF M j M.length = d at *
    generalize M.length = n at *
    refine W.assoc ?_
    refine W.seq (W.chunk ?_)
    simp (disch := first|omega|exact zE rfl|exact zO|exact zL rfl) [c40_o6, zG, q]
    refine W.seq (W.chunk ?_)
    simp (disch := first|omega|exact zE rfl|exact zO|exact zL rfl) [zG, q]
    exact kR _ _ (by simp [T.get, q])
structure C40 (H : Heap) (M : List (List Int)) (b v qc ql : Nat) (cs rs : List AV) : Prop where
  mx : MX H M b v cs
  gc : H.get qc = .cells 1 M.length (gs (clsL M))
  ld : LD H M ql rs
theorem c40_j (J : CallF) (hm : isMat M = true) {H : Heap} {b v qc ql i j : Nat} {xp : AV} {cs rs : List AV} (C : C40 H M b v qc ql cs rs) (hi : i < M.length) (hj : j < M.length) (nb : ¬ bigD M i j) :
    Tr tbl J (.trim [[], [false], [false, true], [true, true], [false, false, false], [true, false, false]] c40_b1) (fun s h => h = H ∧ s.get [] = .slice b 0 M.length v ∧ s.get [false] = G i ∧ s.get [false, true] = .slice qc 0 M.length M.length ∧ s.get [true, true] = xp ∧ s.get [false, false, false] = .slice ql 0 M.length M.length ∧ s.get [true, false, false] = G j) .normal
      (fun s h => h = H ∧ s.get [] = .slice b 0 M.length v ∧ s.get [false] = G i ∧ s.get [false, true] = .slice qc 0 M.length M.length ∧ s.get [true, true] = xp ∧ s.get [false, false, false] = .slice ql 0 M.length M.length ∧ s.get [true, false, false] = G ((j + 1 : Nat) : Int)) := by
  have h8 := isMat_n hm
  have l0 := c40_k (i := i) (xp := xp) (xl := .slice ql 0 M.length M.length) J hm C.mx C.gc hj
  rw [show dgF M j 0 = 0 from rfl] at l0
  obtain ⟨rb, er, gr⟩ := C.ld.r i hi
  have gq := C.ld.g
  have er' := getI er
  have el : ∀ x, ldF M (i * 8 + j) = x → (bls (fun z => ldF M (i * 8 + z)) M.length)[j]? = some (.bool x) := fun x e => bls_getN (fun z => ldF M (i * 8 + z)) hj e
  have lif := ldF_iff hm hi hj
  refine Tr.w fun s1 H1 hp R kR => W.trim ?_
  obtain ⟨rfl, q⟩ := hp
  cases hl : ldF M (i * 8 + j)
  · have a1 := el _ hl
    have a1' := getI a1
    clear C lif el hm nb
    generalize dg M j = d at *
    generalize bls (fun z => ldF M (i * 8 + z)) M.length = cl at *
    generalize M.length = n at *
    refine W.assoc ?_
    refine W.seq (W.chunk ?_)
    simp (disch := first|omega|exact zE rfl|exact zO|exact zL rfl) [c40_o3, zG, q]
    refine W.seq (W.chunk ?_)
    simp (disch := first|omega|exact zE rfl|exact zO|exact zL rfl) [zG, q]
    refine W.seq (W.block ?_)
    refine W.seq (W.chunk ?_)
    simp (disch := first|omega|exact zE rfl|exact zO|exact zL rfl) [c40_o4, zG, q]
    refine W.assoc ?_
    refine W.seq (W.chunk ?_)
    simp (disch := first|omega|exact zE rfl|exact zO|exact zL rfl) [c40_o5, zG, q]
    refine W.seq (W.block ?_)
    refine W.use (l0) (by simp (disch := first|omega|exact zE rfl|exact zO|exact zL rfl) [zG, q]) fun s1 H1 hp => ?_
    obtain ⟨rfl, q⟩ := hp
    try simp only [zW, if_true]
    refine W.seq (W.chunk ?_)
    simp (disch := first|omega|exact zE rfl|exact zO|exact zL rfl) [c40_o10, zG, q, gq, er, er', gr, a1, a1']
    refine W.chunk ?_
    simp (disch := first|omega|exact zE rfl|exact zO|exact zL rfl) [c40_o11, zG, q]
    refine W.chunk ?_
    simp (disch := first|omega|exact zE rfl|exact zO|exact zL rfl) [c40_o12, zG, q]
    exact kR _ _ (by simp [T.get, q])
  · have a1 := el _ hl
    have a1' := getI a1
    have nd : ¬ 1 < dg M j := fun x => nb ⟨hj, lif.1 hl, x⟩
    clear C lif el hm nb
    generalize dg M j = d at *
    generalize bls (fun z => ldF M (i * 8 + z)) M.length = cl at *
    generalize M.length = n at *
    refine W.assoc ?_
    refine W.seq (W.chunk ?_)
    simp (disch := first|omega|exact zE rfl|exact zO|exact zL rfl) [c40_o3, zG, q]
    refine W.seq (W.chunk ?_)
    simp (disch := first|omega|exact zE rfl|exact zO|exact zL rfl) [zG, q]
    refine W.seq (W.block ?_)
    refine W.seq (W.chunk ?_)
    simp (disch := first|omega|exact zE rfl|exact zO|exact zL rfl) [c40_o4, zG, q]
    refine W.assoc ?_
    refine W.seq (W.chunk ?_)
    simp (disch := first|omega|exact zE rfl|exact zO|exact zL rfl) [c40_o5, zG, q]
    refine W.seq (W.block ?_)
    refine W.use (l0) (by simp (disch := first|omega|exact zE rfl|exact zO|exact zL rfl) [zG, q]) fun s1 H1 hp => ?_
    obtain ⟨rfl, q⟩ := hp
    try simp only [zW, if_true]
    refine W.seq (W.chunk ?_)
    simp (disch := first|omega|exact zE rfl|exact zO|exact zL rfl) [c40_o10, zG, q, gq, er, er', gr, a1, a1']
    refine W.chunk ?_
    simp (disch := first|omega|exact zE rfl|exact zO|exact zL rfl) [c40_o11, zG, q]
    refine W.chunk ?_
    simp (disch := first|omega|exact zE rfl|exact zO|exact zL rfl) [c40_o12, zG, q]
    exact kR _ _ (by simp [T.get, q])
theorem c40_t (J : CallF) (hm : isMat M = true) {H : Heap} {b v qc ql i j0 : Nat} {xp : AV} {cs rs : List AV} (C : C40 H M b v qc ql cs rs) (hi : i < M.length) (hb : bigD M i j0) (hn : ∀ k, k < j0 → ¬ bigD M i k) : ∀ d j, j + d = j0 →
    Tr tbl J c40_l1 (fun s h => h = H ∧ s.get [] = .slice b 0 M.length v ∧ s.get [false] = G i ∧ s.get [false, true] = .slice qc 0 M.length M.length ∧ s.get [true, true] = xp ∧ s.get [false, false, false] = .slice ql 0 M.length M.length ∧ s.get [true, false, false] = G j) .ret (fun s h => s.get [true, false] = G (-2)) := by
  have h8 := isMat_n hm
  intro d
  induction d with
  | zero =>
    intro j hj
    obtain rfl : j = j0 := by omega
    obtain ⟨hj, r, nd⟩ := hb
    have l0 := c40_k (i := i) (xp := xp) (xl := .slice ql 0 M.length M.length) J hm C.mx C.gc hj
    rw [show dgF M j 0 = 0 from rfl] at l0
    obtain ⟨rb, er, gr⟩ := C.ld.r i hi
    have gq := C.ld.g
    have er' := getI er
    have a1 : (bls (fun z => ldF M (i * 8 + z)) M.length)[j]? = some (.bool true) := bls_getN (fun z => ldF M (i * 8 + z)) hj ((ldF_iff hm hi hj).2 r)
    have a1' := getI a1
    refine Tr.out ?_ (by simp)
    refine Tr.w fun s1 H1 hp R kR => W.trim ?_
    obtain ⟨rfl, q⟩ := hp
    clear C hn
    generalize dg M j = d at *
    generalize bls (fun z => ldF M (i * 8 + z)) M.length = cl at *
    clear hm r
    generalize M.length = n at *
    refine W.assoc ?_
    refine W.seq (W.chunk ?_)
    simp (disch := first|omega|exact zE rfl|exact zO|exact zL rfl) [c40_o3, zG, q]
    refine W.seq (W.chunk ?_)
    simp (disch := first|omega|exact zE rfl|exact zO|exact zL rfl) [zG, q]
    refine W.seq (W.block ?_)
    refine W.seq (W.chunk ?_)
    simp (disch := first|omega|exact zE rfl|exact zO|exact zL rfl) [c40_o4, zG, q]
    refine W.assoc ?_
    refine W.seq (W.chunk ?_)
    simp (disch := first|omega|exact zE rfl|exact zO|exact zL rfl) [c40_o5, zG, q]
    refine W.seq (W.block ?_)
    refine W.use (l0) (by simp (disch := first|omega|exact zE rfl|exact zO|exact zL rfl) [zG, q]) fun s1 H1 hp => ?_
    obtain ⟨rfl, q⟩ := hp
    try simp only [zW, if_true]
    refine W.seq (W.chunk ?_)
    simp (disch := first|omega|exact zE rfl|exact zO|exact zL rfl) [c40_o10, zG, q, gq, er, er', gr, a1, a1']
    refine W.chunk ?_
    simp (disch := first|omega|exact zE rfl|exact zO|exact zL rfl) [c40_o11, zG, q]
    exact kR _ _ (by simp [T.get, q])
  | succ d ih =>
    intro j hj
    exact Tr.next (c40_j J hm C hi (by have := hb.1; omega) (hn j (by omega))) (ih (j + 1) (by omega))
theorem c40_n (J : CallF) (hm : isMat M = true) {H : Heap} {b v qc ql i : Nat} {xp : AV} {cs rs : List AV} (C : C40 H M b v qc ql cs rs) (hi : i < M.length) (hn : ∀ k, ¬ bigD M i k) : ∀ d j, j + d = M.length →
    Tr tbl J c40_l1 (fun s h => h = H ∧ s.get [] = .slice b 0 M.length v ∧ s.get [false] = G i ∧ s.get [false, true] = .slice qc 0 M.length M.length ∧ s.get [true, true] = xp ∧ s.get [false, false, false] = .slice ql 0 M.length M.length ∧ s.get [true, false, false] = G j) (.exit 0) (fun s h => h = H ∧ s.get [] = .slice b 0 M.length v ∧ s.get [false] = G i ∧ s.get [false, true] = .slice qc 0 M.length M.length ∧ s.get [true, true] = xp ∧ s.get [false, false, false] = .slice ql 0 M.length M.length) := by
  have h8 := isMat_n hm
  intro d
  induction d with
  | zero =>
    intro j hj
    obtain rfl : j = M.length := by omega
    refine Tr.out ?_ (by simp)
    refine Tr.w fun s1 H1 hp R kR => W.trim ?_
    obtain ⟨rfl, q⟩ := hp
    clear C hn hm
    generalize M.length = n at *
    refine W.assoc ?_
    refine W.seq (W.chunk ?_)
    simp (disch := first|omega|exact zE rfl|exact zO|exact zL rfl) [c40_o3, zG, q]
    refine W.seq (W.chunk ?_)
    simp (disch := first|omega|exact zE rfl|exact zO|exact zL rfl) [zG, q]
    exact kR _ _ (by simp [T.get, q])
  | succ d ih =>
    intro j hj
    exact Tr.next (c40_j J hm C hi (by omega) (hn j)) (ih (j + 1) (by omega))
theorem c40_ok (J : CallF) (k50 : K50 J) (k51 : K51 J) (k69 : K69 J) (h70 : ∀ a h, J 70 a h = none) (hJ : ∀ a h, J 40 a h = none) (h : Heap) {i : Nat} {y : AV} (hy : MR h y M) (hm : isMat M = true) (hi : i < M.length) : CallsTo tbl J 40 [y, G i] h (G (gwV M i), [], false) := by
  refine Tr.fnv (cf := c40) (e := .ret) (s := T.set (T.set .leaf [] y) [false] (G i)) (by decide) rfl (hJ _ _) rfl rfl rfl (by simp) ?_
  have h8 := isMat_n hm
  have hy0 : MR (frameOf h) y M := hy.lo []
  obtain ⟨w1, own1, k50, n1⟩ := k50 (frameOf h) ⟨M, y⟩ hy0 hm
  simp only at k50 n1
  obtain ⟨qc, rfl, gc⟩ := n1.l.sl (by intro e; have h0 : (gs (clsL M)).length = M.length := gl_len _ _; rw [e] at h0; simp at h0; omega)
  rw [show (gs (clsL M)).length = M.length from gl_len _ _] at k50 gc
  have kp1 : Kp (fun _ => False) (frameOf h) ((frameOf h).plus own1) := Kp.plus _ _
  generalize hA : (frameOf h).plus own1 = A at *
  have hy1 := hy0.kp kp1
  obtain ⟨w2, own2, k51, n2⟩ := k51 A ⟨M, y⟩ hy1 hm
  simp only at k51 n2
  obtain ⟨qp, rfl, gp⟩ := n2.l.sl (by intro e; have h0 : (gs (pdL M)).length = M.length := gl_len _ _; rw [e] at h0; simp at h0; omega)
  rw [show (gs (pdL M)).length = M.length from gl_len _ _] at k51 gp
  have kp2 : Kp (fun _ => False) A (A.plus own2) := Kp.plus _ _
  generalize hB : A.plus own2 = B at *
  have hy2 := hy1.kp kp2
  obtain ⟨w3, own3, k69, tb⟩ := k69 B ⟨M, y⟩ hy2 hm
  simp only at k69 tb
  obtain ⟨ql, rs, rfl, ld⟩ := tb.ld (by omega)
  have kp3 : Kp (fun _ => False) B (B.plus own3) := Kp.plus _ _
  generalize hC : B.plus own3 = C at *
  have hy3 := hy2.kp kp3
  obtain ⟨b, v, cs, rfl, mx⟩ := hy3.mx hm
  have gc := kp3.at (kp2.at gc (by simp) id) (by simp) id
  have gp := kp3.at gp (by simp) id
  have c40 : C40 C M b v qc ql cs rs := ⟨mx, gc, ld⟩
  refine Tr.w fun s1 H1 hp R kR => ?_
  obtain ⟨rfl, rfl⟩ := hp
  have q : True := trivial
  rcases gw_or M i with ⟨j0, hb, hn⟩ | hn
  · have l1 := c40_t (xp := .slice qp 0 M.length M.length) J hm c40 hi hb hn j0 0 (by omega)
    rw [gw_t hb] at kR
    clear n1 n2 tb mx c40 hy hy0 hy1 hy2 hy3 gc gp ld hn hb
    refine W.seq (W.chunk ?_)
    simp (disch := first|omega|exact zE rfl|exact zO|exact zL rfl) [c40_o0, zG, q]
    refine W.seq (W.chunk ?_)
    simp (disch := first|omega|exact zE rfl|exact zO|exact zL rfl) [c40_o1, zG, q, k50, k51, k69, app_if, app_if', hA, hB, hC]
    refine W.assoc ?_
    refine W.seq (W.chunk ?_)
    simp (disch := first|omega|exact zE rfl|exact zO|exact zL rfl) [c40_o2, zG, q]
    refine W.seq (W.block ?_)
    refine W.use (l1) (by simp (disch := first|omega|exact zE rfl|exact zO|exact zL rfl) [zG, q]) fun s1 H1 hp => ?_
    obtain q := hp
    try simp only [zW, if_true]
    exact kR _ _ ⟨[G (-2)], by simp [T.get, Ev.c40, evRess, evRes, hp], rfl⟩
  · have l1 := c40_n (xp := .slice qp 0 M.length M.length) J hm c40 hi hn M.length 0 (by omega)
    have c70 := c70_ok (b := b) (v := v) J h70 hm _ i hi rfl C ⟨gc, gp, ld⟩
    rw [gw_f hn] at kR
    have bd := chv_bd hm hi
    refine W.point (by decide) c70 ?_
    have k70 := pt_at (I := J) (f := 70) (args := [.slice b 0 M.length v, .slice qc 0 M.length M.length, .slice qp 0 M.length M.length, .slice ql 0 M.length M.length, G i]) (h := C) (x := (G (chv M i), [], false))
    have k50 := (pt_ne (x := (G (chv M i), [], false)) (args := [.slice b 0 M.length v, .slice qc 0 M.length M.length, .slice qp 0 M.length M.length, .slice ql 0 M.length M.length, G i]) (h := C) (show 50 ≠ 70 by decide)).trans k50
    have k51 := (pt_ne (x := (G (chv M i), [], false)) (args := [.slice b 0 M.length v, .slice qc 0 M.length M.length, .slice qp 0 M.length M.length, .slice ql 0 M.length M.length, G i]) (h := C) (show 51 ≠ 70 by decide)).trans k51
    have k69 := (pt_ne (x := (G (chv M i), [], false)) (args := [.slice b 0 M.length v, .slice qc 0 M.length M.length, .slice qp 0 M.length M.length, .slice ql 0 M.length M.length, G i]) (h := C) (show 69 ≠ 70 by decide)).trans k69
    have l1 := c40_n (xp := .slice qp 0 M.length M.length) (pt J 70 [.slice b 0 M.length v, .slice qc 0 M.length M.length, .slice qp 0 M.length M.length, .slice ql 0 M.length M.length, G i] C (G (chv M i), [], false)) hm c40 hi hn M.length 0 (by omega)
    clear c70
    generalize pt J 70 [.slice b 0 M.length v, .slice qc 0 M.length M.length, .slice qp 0 M.length M.length, .slice ql 0 M.length M.length, G i] C (G (chv M i), [], false) = J at *
    clear n1 n2 tb mx c40 hy hy0 hy1 hy2 hy3 gc gp ld hn
    generalize chv M i = z at *
    refine W.seq (W.chunk ?_)
    simp (disch := first|omega|exact zE rfl|exact zO|exact zL rfl) [c40_o0, zG, q]
    refine W.seq (W.chunk ?_)
    simp (disch := first|omega|exact zE rfl|exact zO|exact zL rfl) [c40_o1, zG, q, k50, k51, k69, app_if, app_if', hA, hB, hC]
    refine W.assoc ?_
    refine W.seq (W.chunk ?_)
    simp (disch := first|omega|exact zE rfl|exact zO|exact zL rfl) [c40_o2, zG, q]
    refine W.seq (W.block ?_)
    refine W.use (l1) (by simp (disch := first|omega|exact zE rfl|exact zO|exact zL rfl) [zG, q]) fun s1 H1 hp => ?_
    obtain ⟨rfl, q⟩ := hp
    try simp only [zW, if_true]
    refine W.seq (W.chunk ?_)
    simp (disch := first|omega|exact zE rfl|exact zO|exact zL rfl) [c40_o13, zG, q, k70]
    refine W.ret ?_
    try simp only [zW, if_true]
    exact kR _ _ ⟨[G (z - 1 : Int)], by simp [T.get, Ev.c40, evRess, evRes], rfl⟩
end
def Post40 (a : AI) (_ : Heap) (v : AV) (own : List AObj) : Prop := v = G (gwV a.M a.i) ∧ own = []
noncomputable def T37 : CallF := addK tbl T36 40 PreI Post40
theorem t37 : Sound Go.Proofs.Try.prog T37 := Sound.addK follows ok t36 (by decide) _ _
abbrev K40 (J : CallF) : Prop := ∀ (h : Heap) (a : AI), OkI a h → ∃ v own, J 40 [a.y, G a.i] h = some (v, own, false) ∧ Post40 a h v own
theorem k50_36 : K50 T36 := fun h a ha hm => by
  simp (disch := decide) only [T36, T35, T34, T33, T32, T31, T30, T29, T28, T27, T26, T25, T24, T23, addK_ne]
  exact k50 h a ha hm
theorem k51_36 : K51 T36 := fun h a ha hm => by
  simp (disch := decide) only [T36, T35, T34, T33, T32, T31, T30, T29, T28, T27, T26, addK_ne]
  exact k51 h a ha hm
theorem k69_36 : K69 T36 := fun h a ha hm => by
  simp (disch := decide) only [T36, T35, T34, T33, T32, T31, T30, T29, T28, T27, T26, T25, T24, T23, T22, addK_ne]
  exact k69 h a ha hm
theorem k40 : K40 T37 := fun h a ha => addK_some (Pre := PreI) (Post := Post40) (fun a args h hp => by
  obtain ⟨⟨hy, hm, hi⟩, rfl⟩ := hp
  exact ⟨_, _, c40_ok T36 k50_36 k51_36 k69_36 (fun _ _ => by simp (disch := decide) only [T36, T35, T34, T33, T32, T31, T30, T29, T28, T27, T26, T25, T24, T23, T22, T21, T20, T19, T18, T17, T16, T15, T14, T13, T12, T11, T10, T9, T8, T7, T6, T5, T4, T3, T2, T1, R21, R20, R19, R18, R17, R16, R15, R14, R13, R12, R11, R10, R9, R8, R7, R6, R5, R4, R3, R2, R1, addI_ne, addX_ne, addV_ne, addK_ne]; rfl) (fun _ _ => by simp (disch := decide) only [T36, T35, T34, T33, T32, T31, T30, T29, T28, T27, T26, T25, T24, T23, T22, T21, T20, T19, T18, T17, T16, T15, T14, T13, T12, T11, T10, T9, T8, T7, T6, T5, T4, T3, T2, T1, R21, R20, R19, R18, R17, R16, R15, R14, R13, R12, R11, R10, R9, R8, R7, R6, R5, R4, R3, R2, R1, addI_ne, addX_ne, addV_ne, addK_ne]; rfl) h hy hm hi, rfl, rfl⟩) a _ h ⟨ha, rfl⟩
def capG (b14 qm q9 q8 b15 q10 : Nat) : List AV := [.ptr b14 0 1, .ptr qm 0 65, .ptr q9 0 1, .ptr q8 0 64, .ptr b15 0 1, .ptr q10 0 1]
structure CG (K : Heap) (M : List (List Int)) (b14 bm qm q9 qc q8 b15 q10 by' : Nat) (C : List Nat) : Prop where
  g14 : K.get b14 = .cells 0 1 [.map bm]
  gq : K.get qm = .cells 0 65 (matC M)
  g9 : K.get q9 = .cells 0 1 [.slice qc 0 M.length M.length]
  gc : K.get qc = .cells 1 M.length (gs (clsL M))
  g8 : K.get q8 = .cells 0 64 (bls (ldF M) 64)
  g15 : K.get b15 = .cells 0 1 [.func 68 (capG b14 qm q9 q8 b15 q10)]
  g10 : K.get q10 = .cells 0 1 [.map by']
  gy : K.get by' = .map (st C)
  hN : K.N ≤ bm
  ne : by' ≠ bm
section
variable {M : List (List Int)}
theorem CG.kp {K K' : Heap} {b14 bm qm q9 qc q8 b15 q10 by' : Nat} {C : List Nat} {es : List (AV × AV)} (t : CG K M b14 bm qm q9 qc q8 b15 q10 by' C) (g : K.get bm = .map es) (k : Kp (fun i => i = bm) K K') : CG K' M b14 bm qm q9 qc q8 b15 q10 by' C := by
  have nn : ∀ {b s n cs}, K.get b = .cells s n cs → ¬ b = bm := fun e q => by rw [q, g] at e; cases e
  exact ⟨k.at t.g14 (by simp) (nn t.g14), k.at t.gq (by simp) (nn t.gq), k.at t.g9 (by simp) (nn t.g9), k.at t.gc (by simp) (nn t.gc), k.at t.g8 (by simp) (nn t.g8), k.at t.g15 (by simp) (nn t.g15), k.at t.g10 (by simp) (nn t.g10), k.at t.gy (by simp) t.ne, by rw [k.N]; exact t.hN, t.ne⟩
def RG (M : List (List Int)) (bm : Nat) (K K' : Heap) : Prop := Kp (fun i => i = bm) K K' ∧ ∃ L, K'.get bm = .map (sv (fun c => (chv M c : Int)) L)
theorem RG.trans {bm : Nat} {A B C : Heap} (x : RG M bm A B) (y : RG M bm B C) : RG M bm A C := ⟨x.1.trans y.1, y.2⟩
theorem c68_l (J : CallF) (hm : isMat M = true) {K : Heap} {b14 bm qm q9 qc q8 b15 q10 by' c : Nat} {C : List Nat} (cg : CG K M b14 bm qm q9 qc q8 b15 q10 by' C) {L0 : List Nat} (g0 : K.get bm = .map (sv (fun c => (chv M c : Int)) L0)) (hc : c < M.length) (hcl : clN M c = c)
    (ih : ∀ j, j < M.length → clN M j = j → j ≠ c → Rc M c j → ∀ K', RG M bm K K' → ∃ K2, RG M bm K' K2 ∧ CallsTo tbl J 68 (G j :: capG b14 qm q9 q8 b15 q10) K' (G (chv M j), K2.own, true)) :
    Tr tbl J c68_l0 (fun s h => RG M bm K h ∧ s.get [] = G c ∧ s.get [false] = .ptr b14 0 1 ∧ s.get [false, false] = .ptr q9 0 1 ∧ s.get [true, false] = .ptr q8 0 64 ∧ s.get [false, true] = .ptr b15 0 1 ∧ s.get [true, true] = .ptr q10 0 1 ∧ s.get [false, false, true] = G ((mxN (chR M c) 0 : Nat) : Int) ∧ s.get [true, true, true, false] = G M.length ∧ s.get [false, false, false, true] = G ((0 : Nat) : Int)) (.exit 0)
      (fun s h => RG M bm K h ∧ s.get [] = G c ∧ s.get [false] = .ptr b14 0 1 ∧ s.get [true, true] = .ptr q10 0 1 ∧ s.get [false, false, true] = G (mxN (chR M c) M.length)) := by
  have h8 := isMat_n hm
  refine Tr.rounds (P := fun j s h => RG M bm K h ∧ s.get [] = G c ∧ s.get [false] = .ptr b14 0 1 ∧ s.get [false, false] = .ptr q9 0 1 ∧ s.get [true, false] = .ptr q8 0 64 ∧ s.get [false, true] = .ptr b15 0 1 ∧ s.get [true, true] = .ptr q10 0 1 ∧ s.get [false, false, true] = G (mxN (chR M c) j) ∧ s.get [true, true, true, false] = G M.length ∧ s.get [false, false, false, true] = G j) (M := M.length) (fun j hj => ?_) ?_ (by simp) 0 (by omega)
  · refine Tr.w fun s1 H1 hp R kR => W.trim ?_
    obtain ⟨rg, q⟩ := hp
    have cg1 := cg.kp g0 rg.1
    have g9 := cg1.g9
    have gc := cg1.gc
    have g8 := cg1.g8
    have g15 := cg1.g15
    have cj : (gs (clsL M))[j]? = some (G (clN M j)) := gl_at _ hj
    have cj' := getI cj
    have el := fun x => bls_get (ldF M) (i := c * 8 + j) (x := x) (by omega)
    have lif := ldF_iff hm hc hj
    have l64 := bls_len (ldF M) 64
    have bm' : mxN (chR M c) j ≤ M.length := mxN_le fun z hz => by
      by_cases e : clN M z = z ∧ z ≠ c ∧ Rc M c z
      · rw [chR_t e]; exact chv_bd hm (by omega)
      · rw [chR_f e]; omega
    have bj := chv_bd hm hj
    have es : mxN (chR M c) (j + 1) = if mxN (chR M c) j < chR M c j then chR M c j else mxN (chR M c) j := rfl
    simp only [es] at kR
    by_cases d : clN M j = j ∧ j ≠ c ∧ Rc M c j
    · obtain ⟨d1, d2, d3⟩ := id d
      obtain ⟨K2, rg2, call⟩ := ih j hj d1 d2 d3 H1 rg
      have aa := all_eq rg2.1
      have rg3 : RG M bm K ⟨H1.lo, H1.N, K2.own⟩ := by rw [aa]; exact rg.trans rg2
      have a1 := el _ (lif.2 d3)
      have a1' := getI a1
      rw [chR_t d] at kR
      rw [d1] at cj cj'
      refine W.point (by decide) call ?_
      have k68 := pt_at (I := J) (f := 68) (args := G j :: capG b14 qm q9 q8 b15 q10) (h := H1) (x := (G (chv M j), K2.own, true))
      generalize pt J 68 (G j :: capG b14 qm q9 q8 b15 q10) H1 (G (chv M j), K2.own, true) = J at *
      clear ih es lif hm el cg cg1 call rg rg2 g0 d hcl d1 d3
      generalize mxN (chR M c) j = mx at *
      generalize chv M j = z at *
      generalize gs (clsL M) = cc at *
      generalize bls (ldF M) 64 = cl at *
      generalize capG b14 qm q9 q8 b15 q10 = cap at *
      generalize M.length = n at *
      have d2' : ¬ (j : Int) = c := by omega
      by_cases lt : mx < z
      · rw [if_pos lt] at kR
        refine W.seq (W.chunk ?_)
        simp (disch := first|omega|exact zE rfl|exact zO|exact zL rfl) [c68_o5, zG, q]
        refine W.seq (W.chunk ?_)
        simp (disch := first|omega|exact zE rfl|exact zO|exact zL rfl) [zG, q]
        refine W.seq (W.block ?_)
        refine W.seq (W.chunk ?_)
        simp (disch := first|omega|exact zE rfl|exact zO|exact zL rfl) [c68_o6, zG, q]
        refine W.seq (W.chunk ?_)
        simp (disch := first|omega|exact zE rfl|exact zO|exact zL rfl) [c68_o7, zG, q, g9, gc, cj, cj', g8, a1, a1', l64]
        refine W.chunk ?_
        simp (disch := first|omega|exact zE rfl|exact zO|exact zL rfl) [c68_o8, zG, q, g15, k68]
        refine W.chunk ?_
        simp (disch := first|omega|exact zE rfl|exact zO|exact zL rfl) [c68_o9, zG, q]
        exact kR _ _ ⟨rg3, by simp [T.get, q]⟩
      · rw [if_neg lt] at kR
        refine W.seq (W.chunk ?_)
        simp (disch := first|omega|exact zE rfl|exact zO|exact zL rfl) [c68_o5, zG, q]
        refine W.seq (W.chunk ?_)
        simp (disch := first|omega|exact zE rfl|exact zO|exact zL rfl) [zG, q]
        refine W.seq (W.block ?_)
        refine W.seq (W.chunk ?_)
        simp (disch := first|omega|exact zE rfl|exact zO|exact zL rfl) [c68_o6, zG, q]
        refine W.seq (W.chunk ?_)
        simp (disch := first|omega|exact zE rfl|exact zO|exact zL rfl) [c68_o7, zG, q, g9, gc, cj, cj', g8, a1, a1', l64]
        refine W.chunk ?_
        simp (disch := first|omega|exact zE rfl|exact zO|exact zL rfl) [c68_o8, zG, q, g15, k68]
        refine W.chunk ?_
        simp (disch := first|omega|exact zE rfl|exact zO|exact zL rfl) [c68_o9, zG, q]
        exact kR _ _ ⟨rg3, by simp [T.get, q]⟩
    · rw [chR_f d, if_neg (Nat.not_lt_zero _)] at kR
      by_cases d1 : clN M j = j
      · rw [d1] at cj cj'
        by_cases d2 : j = c
        · subst d2
          clear ih es lif hm el cg cg1 g0
          generalize mxN (chR M j) j = mx at *
          generalize gs (clsL M) = cc at *
          generalize M.length = n at *
          refine W.seq (W.chunk ?_)
          simp (disch := first|omega|exact zE rfl|exact zO|exact zL rfl) [c68_o5, zG, q]
          refine W.seq (W.chunk ?_)
          simp (disch := first|omega|exact zE rfl|exact zO|exact zL rfl) [zG, q]
          refine W.seq (W.block ?_)
          refine W.seq (W.chunk ?_)
          simp (disch := first|omega|exact zE rfl|exact zO|exact zL rfl) [c68_o6, zG, q]
          refine W.seq (W.chunk ?_)
          simp (disch := first|omega|exact zE rfl|exact zO|exact zL rfl) [c68_o7, zG, q, g9, gc, cj, cj']
          refine W.chunk ?_
          simp (disch := first|omega|exact zE rfl|exact zO|exact zL rfl) [c68_o8, zG, q]
          refine W.chunk ?_
          simp (disch := first|omega|exact zE rfl|exact zO|exact zL rfl) [c68_o9, zG, q]
          exact kR _ _ ⟨rg, by simp [T.get, q]⟩
        · have nr : ldF M (c * 8 + j) = false := by
            cases hl : ldF M (c * 8 + j)
            · rfl
            · exact absurd ⟨d1, d2, lif.1 hl⟩ d
          have a1 := el _ nr
          have a1' := getI a1
          clear ih es lif hm el cg cg1 g0 nr d d1
          generalize mxN (chR M c) j = mx at *
          generalize gs (clsL M) = cc at *
          generalize bls (ldF M) 64 = cl at *
          generalize M.length = n at *
          have d2' : ¬ (j : Int) = c := by omega
          refine W.seq (W.chunk ?_)
          simp (disch := first|omega|exact zE rfl|exact zO|exact zL rfl) [c68_o5, zG, q]
          refine W.seq (W.chunk ?_)
          simp (disch := first|omega|exact zE rfl|exact zO|exact zL rfl) [zG, q]
          refine W.seq (W.block ?_)
          refine W.seq (W.chunk ?_)
          simp (disch := first|omega|exact zE rfl|exact zO|exact zL rfl) [c68_o6, zG, q]
          refine W.seq (W.chunk ?_)
          simp (disch := first|omega|exact zE rfl|exact zO|exact zL rfl) [c68_o7, zG, q, g9, gc, cj, cj', g8, a1, a1', l64]
          refine W.chunk ?_
          simp (disch := first|omega|exact zE rfl|exact zO|exact zL rfl) [c68_o8, zG, q]
          refine W.chunk ?_
          simp (disch := first|omega|exact zE rfl|exact zO|exact zL rfl) [c68_o9, zG, q]
          exact kR _ _ ⟨rg, by simp [T.get, q]⟩
      · have d1' : ¬ (j : Int) = (clN M j : Nat) := by omega
        clear ih es lif hm el cg cg1 g0 d
        generalize mxN (chR M c) j = mx at *
        generalize clN M j = u at *
        generalize gs (clsL M) = cc at *
        generalize M.length = n at *
        refine W.seq (W.chunk ?_)
        simp (disch := first|omega|exact zE rfl|exact zO|exact zL rfl) [c68_o5, zG, q]
        refine W.seq (W.chunk ?_)
        simp (disch := first|omega|exact zE rfl|exact zO|exact zL rfl) [zG, q]
        refine W.seq (W.block ?_)
        refine W.seq (W.chunk ?_)
        simp (disch := first|omega|exact zE rfl|exact zO|exact zL rfl) [c68_o6, zG, q]
        refine W.seq (W.chunk ?_)
        simp (disch := first|omega|exact zE rfl|exact zO|exact zL rfl) [c68_o7, zG, q, g9, gc, cj, cj']
        refine W.chunk ?_
        simp (disch := first|omega|exact zE rfl|exact zO|exact zL rfl) [c68_o8, zG, q]
        refine W.chunk ?_
        simp (disch := first|omega|exact zE rfl|exact zO|exact zL rfl) [c68_o9, zG, q]
        exact kR _ _ ⟨rg, by simp [T.get, q]⟩
  · refine Tr.w fun s1 H1 hp R kR => W.trim ?_
    obtain ⟨rg, q⟩ := hp
    clear cg ih
    generalize mxN (chR M c) M.length = mx at *
    generalize M.length = n at *
    refine W.seq (W.chunk ?_)
    simp (disch := first|omega|exact zE rfl|exact zO|exact zL rfl) [c68_o5, zG, q]
    refine W.seq (W.chunk ?_)
    simp (disch := first|omega|exact zE rfl|exact zO|exact zL rfl) [zG, q]
    exact kR _ _ ⟨rg, by simp [T.get, q]⟩
theorem c68_ok (J : CallF) (hJ : ∀ a h, J 68 a h = none) (hm : isMat M = true) {b14 bm qm q9 qc q8 b15 q10 by' : Nat} {C : List Nat} (hC : ∀ c, c ∈ C ↔ ∃ j, j < M.length ∧ 0 < dg M j ∧ clN M j = c) :
    ∀ r c, c < M.length → clN M c = c → rkN M c = r → ∀ K L, CG K M b14 bm qm q9 qc q8 b15 q10 by' C → K.get bm = .map (sv (fun c => (chv M c : Int)) L) →
      ∃ K', RG M bm K K' ∧ CallsTo tbl J 68 (G c :: capG b14 qm q9 q8 b15 q10) K (G (chv M c), K'.own, true) := fun r => by
  induction r using Nat.strongRecOn with
  | _ r ih =>
    intro c hc hcl hr K L cg g0
    have h8 := isMat_n hm
    refine Tr.shr (R := RG M bm K) (args := G c :: capG b14 qm q9 q8 b15 q10) (cf := c68) (e := .ret) (s := T.set (T.set (T.set (T.set (T.set (T.set (T.set .leaf [] (G c)) [false] (.ptr b14 0 1)) [true] (.ptr qm 0 65)) [false, false] (.ptr q9 0 1)) [true, false] (.ptr q8 0 64)) [false, true] (.ptr b15 0 1)) [true, true] (.ptr q10 0 1)) (by decide) rfl (hJ _ _) rfl rfl (by simp) ?_
    refine Tr.w fun s1 H1 hp R kR => ?_
    obtain ⟨rfl, rfl⟩ := hp
    have q : True := trivial
    have g14 := cg.g14
    have gq := cg.gq
    have lm := matC_len M
    have e0 : (matC M)[0]? = some (G M.length) := rfl
    have e0' := getI e0
    have ga := mapA_at g0
    have fs := find_sv (fun c => (chv M c : Int)) c L
    by_cases hL : c ∈ L
    · rw [if_pos hL] at fs
      have fin : RG M bm H1 H1 := ⟨Kp.refl _, L, g0⟩
      clear cg ih
      generalize sv (fun c => (chv M c : Int)) L = es at *
      generalize matC M = cm at *
      generalize chv M c = z at *
      refine W.seq (W.chunk ?_)
      simp (disch := first|omega|exact zE rfl|exact zO|exact zL rfl) [c68_o0, zG, q]
      refine W.assoc ?_
      refine W.seq (W.chunk ?_)
      simp (disch := first|omega|exact zE rfl|exact zO|exact zL rfl) [c68_o1, zG, q, g14, ga, fs]
      refine W.assoc ?_
      refine W.seq (W.chunk ?_)
      simp (disch := first|omega|exact zE rfl|exact zO|exact zL rfl) [c68_o2, zG, q]
      refine W.seq (W.cond (v := false) (by simp (disch := first|omega|exact zE rfl|exact zO|exact zL rfl) [zG, q]) ?_)
      simp only [if_true, if_false, Bool.false_eq_true]
      refine W.skip ?_
      try simp only [zW, if_true]
      refine W.seq (W.chunk ?_)
      simp (disch := first|omega|exact zE rfl|exact zO|exact zL rfl) [c68_o13, zG, q, g14, ga, fs]
      refine W.ret ?_
      try simp only [zW, if_true]
      exact kR _ _ ⟨fin, [G z], by simp [T.get, c68, evRess, evRes], rfl⟩
    · rw [if_neg hL] at fs
      have rg0 : RG M bm H1 H1 := ⟨Kp.refl _, L, g0⟩
      have l0 := c68_l (L0 := L) J hm cg g0 hc hcl fun j hj d1 d2 d3 K' rg => by
        obtain ⟨L', g'⟩ := rg.2
        exact ih _ (by have := rk_lt hm hc hj d3 (by rw [d1, hcl]; exact d2); omega) j hj d1 rfl K' L' (cg.kp g0 rg.1) g'
      have ce := chv_eq hm hc
      rw [← mx_rep hm hc hcl] at ce
      have bd := chv_bd hm hc
      have pd := per_dg hm hc
      rw [hcl] at pd
      have pd := pd.trans (hC c).symm
      rw [show mxN (chR M c) 0 = 0 from rfl] at l0
      have fC := find_st c C
      generalize hes : sv (fun c => (chv M c : Int)) L = es at *
      generalize hmx : mxN (chR M c) M.length = mx at *
      have post : ∀ H2, RG M bm H1 H2 → ∃ es2, CG H2 M b14 bm qm q9 qc q8 b15 q10 by' C ∧ mapA H2 (.map bm) = some es2 ∧ mapA H2 (.map by') = some (st C) ∧ ∃ es3, putMap (G c) (G (chv M c)) es2 = some es3 ∧ Eff.app (.mput bm es3) H2 = some (H2.upd bm (.map es3)) ∧ RG M bm H1 (H2.upd bm (.map es3)) ∧ (H2.upd bm (.map es3)).get b14 = .cells 0 1 [.map bm] ∧ mapA (H2.upd bm (.map es3)) (.map bm) = some es3 ∧ findA (G c) es3 = some (some (G (chv M c))) := fun H2 rg => by
        obtain ⟨L2, g2⟩ := rg.2
        have cg2 := cg.kp g0 rg.1
        have hlt := get_lt g2 (by simp)
        have f3 := find_sv (fun c => (chv M c : Int)) c (ins c L2)
        rw [if_pos (mem_ins.2 (.inl rfl))] at f3
        have g3 := upd_same H2 bm (.map (sv (fun c => (chv M c : Int)) (ins c L2))) cg2.hN hlt
        have k3 : Kp (fun i => i = bm) H2 (H2.upd bm (.map (sv (fun c => (chv M c : Int)) (ins c L2)))) := Kp.upd H2 bm _ cg2.hN rfl
        exact ⟨_, cg2, mapA_at g2, mapA_at cg2.gy, _, put_sv (fun c => (chv M c : Int)) c L2, mput_gen H2 bm _ _ cg2.hN g2, ⟨rg.1.trans k3, _, g3⟩, (cg2.kp g2 k3).g14, mapA_at g3, f3⟩
      clear ih cg hmx hes hm hcl hr
      generalize matC M = cm at *
      by_cases hp : perN M c = 0
      · have nC : c ∉ C := fun q => pd.2 q hp
        rw [if_neg nC] at fC
        rw [if_pos hp, Nat.add_zero] at ce
        rw [ce] at bd post
        simp only [ce] at kR
        clear hp nC pd
        refine W.seq (W.chunk ?_)
        simp (disch := first|omega|exact zE rfl|exact zO|exact zL rfl) [c68_o0, zG, q]
        refine W.assoc ?_
        refine W.seq (W.chunk ?_)
        simp (disch := first|omega|exact zE rfl|exact zO|exact zL rfl) [c68_o1, zG, q, g14, ga, fs]
        refine W.assoc ?_
        refine W.seq (W.chunk ?_)
        simp (disch := first|omega|exact zE rfl|exact zO|exact zL rfl) [c68_o2, zG, q]
        refine W.seq (W.cond (v := true) (by simp (disch := first|omega|exact zE rfl|exact zO|exact zL rfl) [zG, q]) ?_)
        simp only [if_true, if_false, Bool.false_eq_true]
        refine W.seq (W.chunk ?_)
        simp (disch := first|omega|exact zE rfl|exact zO|exact zL rfl) [c68_o3, zG, q]
        refine W.assoc ?_
        refine W.seq (W.chunk ?_)
        simp (disch := first|omega|exact zE rfl|exact zO|exact zL rfl) [c68_o4, zG, q, gq, e0, e0', lm]
        refine W.seq (W.block ?_)
        refine W.use (l0) (by simp (disch := first|omega|exact zE rfl|exact zO|exact zL rfl) [zG, q, rg0]) fun s1 H1 hp => ?_
        obtain ⟨rg, q⟩ := hp
        try simp only [zW, if_true]
        refine W.assoc ?_
        obtain ⟨es2, cg2, m1, m2, es3, f1, f2, rg3, n14, m3, f3⟩ := post _ rg
        have n10 := cg2.g10
        have o14 := cg2.g14
        refine W.seq (W.chunk ?_)
        simp (disch := first|omega|exact zE rfl|exact zO|exact zL rfl) [c68_o10, zG, q, n10, m2, fC]
        refine W.seq (W.chunk ?_)
        simp (disch := first|omega|exact zE rfl|exact zO|exact zL rfl) [c68_o11, zG, q]
        refine W.chunk ?_
        simp (disch := first|omega|exact zE rfl|exact zO|exact zL rfl) [c68_o12, zG, q, o14, m1, f1, f2]
        refine W.seq (W.chunk ?_)
        simp (disch := first|omega|exact zE rfl|exact zO|exact zL rfl) [c68_o13, zG, q, n14, m3, f3]
        refine W.ret ?_
        try simp only [zW, if_true]
        exact kR _ _ ⟨rg3, [G mx], by simp [T.get, c68, evRess, evRes], rfl⟩
      · have iC : c ∈ C := pd.1 hp
        rw [if_pos iC] at fC
        rw [if_neg hp] at ce
        rw [ce] at bd post
        simp only [ce] at kR
        have n1 : ((mx + 1 : Nat) : Int) = (mx : Int) + 1 := by omega
        rw [n1] at post
        clear hp iC pd
        refine W.seq (W.chunk ?_)
        simp (disch := first|omega|exact zE rfl|exact zO|exact zL rfl) [c68_o0, zG, q]
        refine W.assoc ?_
        refine W.seq (W.chunk ?_)
        simp (disch := first|omega|exact zE rfl|exact zO|exact zL rfl) [c68_o1, zG, q, g14, ga, fs]
        refine W.assoc ?_
        refine W.seq (W.chunk ?_)
        simp (disch := first|omega|exact zE rfl|exact zO|exact zL rfl) [c68_o2, zG, q]
        refine W.seq (W.cond (v := true) (by simp (disch := first|omega|exact zE rfl|exact zO|exact zL rfl) [zG, q]) ?_)
        simp only [if_true, if_false, Bool.false_eq_true]
        refine W.seq (W.chunk ?_)
        simp (disch := first|omega|exact zE rfl|exact zO|exact zL rfl) [c68_o3, zG, q]
        refine W.assoc ?_
        refine W.seq (W.chunk ?_)
        simp (disch := first|omega|exact zE rfl|exact zO|exact zL rfl) [c68_o4, zG, q, gq, e0, e0', lm]
        refine W.seq (W.block ?_)
        refine W.use (l0) (by simp (disch := first|omega|exact zE rfl|exact zO|exact zL rfl) [zG, q, rg0]) fun s1 H1 hp => ?_
        obtain ⟨rg, q⟩ := hp
        try simp only [zW, if_true]
        refine W.assoc ?_
        obtain ⟨es2, cg2, m1, m2, es3, f1, f2, rg3, n14, m3, f3⟩ := post _ rg
        have n10 := cg2.g10
        have o14 := cg2.g14
        refine W.seq (W.chunk ?_)
        simp (disch := first|omega|exact zE rfl|exact zO|exact zL rfl) [c68_o10, zG, q, n10, m2, fC]
        refine W.seq (W.chunk ?_)
        simp (disch := first|omega|exact zE rfl|exact zO|exact zL rfl) [c68_o11, zG, q]
        refine W.chunk ?_
        simp (disch := first|omega|exact zE rfl|exact zO|exact zL rfl) [c68_o12, zG, q, o14, m1, f1, f2]
        refine W.seq (W.chunk ?_)
        simp (disch := first|omega|exact zE rfl|exact zO|exact zL rfl) [c68_o13, zG, q, n14, m3, f3]
        refine W.ret ?_
        try simp only [zW, if_true]
        exact kR _ _ ⟨rg3, [G (mx + 1 : Nat)], by simp [T.get, c68, evRess, evRes, n1], rfl⟩
end
theorem W.fix {tbl : Nat → Option CFunc} {I : CallF} {c : CCode} {s : T} {h : Heap} {Q : PQ} (k : ∀ B, B = h → W tbl I c s B Q) : W tbl I c s h Q := k h rfl
theorem plus_hole (H : Heap) (a b : AObj) (lo : Nat → AObj) (own : List AObj) {q : Nat} (hq : H.size + 2 ≤ q) : (H.plus (a :: b :: own)).get q = (Heap.plus ⟨lo, H.size + 2, []⟩ own).get q := by
  have e : (⟨lo, H.size + 2, []⟩ : Heap).size = H.size + 2 := by simp [Heap.size]
  rw [plus_ge _ _ _ (by omega), plus_ge _ _ _ (by omega), e]
  rw [show q - H.size = (q - (H.size + 2)) + 1 + 1 by omega]
  rfl
theorem put_2nd (h : Heap) (v o g : Nat) (cs vs : List AV) (y : AObj) (xs : List AObj) (b : Nat) (hb : h.size + 1 = b) (ho : o + vs.length ≤ cs.length) : Eff.app (.put b v o vs) (h.plus (y :: .cells g v cs :: xs)) = some (h.plus (y :: .cells g v (putAt cs o vs) :: xs)) := by
  have := put_plus0 (h.plus [y]) v o g cs vs xs b (by rw [plus_size]; exact hb) ho
  rwa [plus_plus, plus_plus] at this
section
variable {M : List (List Int)}
theorem n39_4 (J : CallF) (k67 : K67 J) (k62 : K62 J) (hm : isMat M = true) {H : Heap} {qm i : Nat} (gm : H.get qm = .cells 0 65 (matC M)) :
    ∃ H2 qc, Kp (fun _ => False) H H2 ∧ H2.get H.size = .cells 0 64 (bls (ldF M) 64) ∧ H2.get (H.size + 1) = .cells 0 1 [.slice qc 0 M.length M.length] ∧ H2.get qc = .cells 1 M.length (gs (clsL M)) ∧
      Tr tbl J c39_o4 (fun s h => h = H ∧ s.get [false] = G i ∧ s.get [true, true] = .ptr qm 0 65) .normal (fun s h => h = H2 ∧ s.get [false] = G i ∧ s.get [true, true] = .ptr qm 0 65 ∧ s.get [true, false, false] = .ptr H.size 0 64 ∧ s.get [false, true, false] = .ptr (H.size + 1) 0 1) := by
  have h8 := isMat_n hm
  have lm := matC_len M
  have et : (matC M).take 65 = matC M := List.take_of_length_le (by omega)
  obtain ⟨w0, own0, k62a, n0⟩ := k62 ⟨fun _ => .hole, 0, []⟩ M hm
  obtain ⟨w, own, k62b, n1⟩ := k62 ⟨fun _ => .hole, H.size + 2, []⟩ M hm
  have k67 := k67 ⟨fun _ => .hole, 0, []⟩ M hm
  have lc : (gs (clsL M)).length = M.length := gl_len _ _
  have hne : gs (clsL M) ≠ [] := by intro e; rw [e] at lc; simp at lc; omega
  obtain ⟨q0, _, g0⟩ := n0.l.sl hne
  obtain ⟨qc, rfl, gc⟩ := n1.l.sl hne
  rw [lc] at k62b gc
  have hqc := n1.x0 qc rfl
  rw [show (⟨fun _ => .hole, H.size + 2, []⟩ : Heap).size = H.size + 2 by simp [Heap.size]] at hqc
  obtain ⟨x0, xs0, rfl⟩ : ∃ x0 xs0, own0 = x0 :: xs0 := by
    cases own0 with
    | cons a b => exact ⟨a, b, rfl⟩
    | nil =>
      have := get_lt g0 (by simp)
      have e : ((⟨fun _ => .hole, 0, []⟩ : Heap).plus []).size = 0 := by simp [Heap.plus, Heap.size]
      omega
  refine ⟨H.plus (.cells 0 64 (bls (ldF M) 64) :: .cells 0 1 [.slice qc 0 M.length M.length] :: own), qc, Kp.plus _ _, plus_at0 _ _ _ _ rfl, ?_, ?_, ?_⟩
  · rw [plus_ge _ _ _ (by omega), show H.size + 1 - H.size = 1 by omega]; rfl
  · rw [plus_hole _ _ _ (fun _ => .hole) _ hqc]; exact gc
  · have gm' := fun xs => plus_keep xs gm (by simp)
    have lb := bls_len (ldF M) 64
    have fl : AV.flats (bls (ldF M) 64) = true := bls_flat _ _
    have rp : List.replicate 64 (AV.bool false) = bls (fun _ => false) 64 := bls_rep 64
    have lz := bls_len (fun _ => false) 64
    have ep : putAt (bls (fun _ => false) 64) 0 (bls (ldF M) 64) = bls (ldF M) 64 := putAt_all _ _ (by omega)
    have fm : AV.flats (matC M) = true := matC_flat M
    have sz : [AObj.hole, .hole].length = 2 := rfl
    have r2 : List.replicate 2 AObj.hole = [.hole, .hole] := rfl
    have p1 := fun (x : AObj) (cs vs : List AV) (o : Nat) (xs : List AObj) (h : o + vs.length ≤ cs.length) => put_2nd H 1 o 0 cs vs x xs (H.size + 1) rfl h
    have hlt := get_lt gm (by simp)
    have ne1 : ¬ qm = H.size := by omega
    have ne2 : ¬ qm = H.size + 1 := by omega
    have f0 := fun x xs => fill_plus0 H H.size rfl x xs
    have f1 := fun x y xs => fill_plus1 H (H.size + 1) rfl x y xs
    refine Tr.w fun s1 H1 hp R kR => ?_
    obtain ⟨rfl, q⟩ := hp
    clear n0 n1 gc g0
    generalize bls (ldF M) 64 = cl at *
    generalize bls (fun _ => false) 64 = cz at *
    generalize matC M = cm at *
    refine W.chunk ?_
    simp (disch := first|omega|exact zE rfl|exact zO|exact zL rfl) [-evDraw_c, -List.reduceReplicate, c39_o4, zG, q, evDraw_k, gm', et, lm, k67, k62a, k62b, fl, fm, rp, lz, lb, ep, plus_plus, plus_size, f0, f1, sz, r2, p1, growsBy, Eff.level, ne1, ne2]
    exact kR _ _ (by simp [T.get, q])
theorem c39_k (J : CallF) (hm : isMat M = true) {H : Heap} {qm q9 qc x i : Nat} {x8 x10 : AV} (gm : H.get qm = .cells 0 65 (matC M)) (g9 : H.get q9 = .cells 0 1 [.slice qc 0 M.length M.length]) (gc : H.get qc = .cells 1 M.length (gs (clsL M))) (hx : x < M.length) :
    Tr tbl J c39_l0 (fun s h => h = H ∧ s.get [false] = G i ∧ s.get [true, true] = .ptr qm 0 65 ∧ s.get [true, false, false] = x8 ∧ s.get [false, true, false] = .ptr q9 0 1 ∧ s.get [true, true, false] = x10 ∧ s.get [false, false, true] = G x ∧ s.get [true, false, true] = G (dgF M x 0) ∧ s.get [false, true, true, false, false] = G M.length ∧ s.get [true, true, true, false, false] = G x ∧ s.get [true, true, false, true, false] = G M.length ∧ s.get [false, false, true, true, false] = G ((0 : Nat) : Int)) (.exit 2)
      (fun s h => h = H ∧ s.get [false] = G i ∧ s.get [true, true] = .ptr qm 0 65 ∧ s.get [true, false, false] = x8 ∧ s.get [false, true, false] = .ptr q9 0 1 ∧ s.get [true, true, false] = x10 ∧ s.get [false, false, true] = G x ∧ s.get [true, false, true] = G (dg M x) ∧ s.get [false, true, true, false, false] = G M.length ∧ s.get [true, true, true, false, false] = G x) := by
  have h8 := isMat_n hm
  have lm := matC_len M
  refine Tr.rounds (P := fun k => (fun s h => h = H ∧ s.get [false] = G i ∧ s.get [true, true] = .ptr qm 0 65 ∧ s.get [true, false, false] = x8 ∧ s.get [false, true, false] = .ptr q9 0 1 ∧ s.get [true, true, false] = x10 ∧ s.get [false, false, true] = G x ∧ s.get [true, false, true] = G (dgF M x k) ∧ s.get [false, true, true, false, false] = G M.length ∧ s.get [true, true, true, false, false] = G x ∧ s.get [true, true, false, true, false] = G M.length ∧ s.get [false, false, true, true, false] = G k)) (M := M.length) (fun k hk => ?_) ?_ (by simp) 0 (by omega)
  · refine Tr.w fun s1 H1 hp R kR => W.trim ?_
    obtain ⟨rfl, q⟩ := hp
    have ea := matC_at M (i := x) (j := k) (by omega) (by omega)
    have ea' := getI ea
    have ci : (gs (clsL M))[x]? = some (G (clN M x)) := gl_at _ hx
    have ck : (gs (clsL M))[k]? = some (G (clN M k)) := gl_at _ hk
    have ci' := getI ci
    have ck' := getI ck
    have bd := dgF_bd hm x k
    have be := ent_bd hm x k
    have es : dgF M x (k + 1) = if clN M x = clN M k then dgF M x k + ent M x k else dgF M x k := rfl
    rw [es] at kR
    clear es hm
    generalize dgF M x k = d at *
    generalize ent M x k = e at *
    generalize matC M = cm at *
    by_cases c : clN M x = clN M k
    · rw [if_pos c] at kR
      rw [← c] at ck ck'
      clear c
      generalize clN M x = u at *
      generalize gs (clsL M) = cc at *
      generalize M.length = n at *
      refine W.seq (W.chunk ?_)
      simp (disch := first|omega|exact zE rfl|exact zO|exact zL rfl) [c39_o11, zG, q]
      refine W.seq (W.chunk ?_)
      simp (disch := first|omega|exact zE rfl|exact zO|exact zL rfl) [zG, q]
      refine W.seq (W.block ?_)
      refine W.seq (W.chunk ?_)
      simp (disch := first|omega|exact zE rfl|exact zO|exact zL rfl) [c39_o12, zG, q]
      refine W.seq (W.chunk ?_)
      simp (disch := first|omega|exact zE rfl|exact zO|exact zL rfl) [c39_o13, zG, q, g9, gc, ci, ci', ck, ck', -evDraw_c, evDraw_0]
      refine W.chunk ?_
      simp (disch := first|omega|exact zE rfl|exact zO|exact zL rfl) [c39_o14, zG, q, gm, ea, ea', lm]
      refine W.chunk ?_
      simp (disch := first|omega|exact zE rfl|exact zO|exact zL rfl) [c39_o15, zG, q]
      exact kR _ _ (by simp [T.get, q])
    · rw [if_neg c] at kR
      have c' : ¬ (clN M x : Int) = clN M k := by omega
      clear c
      generalize clN M x = u at *
      generalize clN M k = w at *
      generalize gs (clsL M) = cc at *
      generalize M.length = n at *
      refine W.seq (W.chunk ?_)
      simp (disch := first|omega|exact zE rfl|exact zO|exact zL rfl) [c39_o11, zG, q]
      refine W.seq (W.chunk ?_)
      simp (disch := first|omega|exact zE rfl|exact zO|exact zL rfl) [zG, q]
      refine W.seq (W.block ?_)
      refine W.seq (W.chunk ?_)
      simp (disch := first|omega|exact zE rfl|exact zO|exact zL rfl) [c39_o12, zG, q]
      refine W.seq (W.chunk ?_)
      simp (disch := first|omega|exact zE rfl|exact zO|exact zL rfl) [c39_o13, zG, q, g9, gc, ci, ci', ck, ck', -evDraw_c, evDraw_0]
      refine W.chunk ?_
      simp (disch := first|omega|exact zE rfl|exact zO|exact zL rfl) [c39_o14, zG, q]
      refine W.chunk ?_
      simp (disch := first|omega|exact zE rfl|exact zO|exact zL rfl) [c39_o15, zG, q]
      exact kR _ _ (by simp [T.get, q])
  · refine Tr.w fun s1 H1 hp R kR => W.trim ?_
    obtain ⟨rfl, q⟩ := hp
    clear gm g9 gc
    rw [show dg M x = dgF M x M.length from rfl] at kR
    generalize dgF M x M.length = d at *
    generalize M.length = n at *
    refine W.seq (W.chunk ?_)
    simp (disch := first|omega|exact zE rfl|exact zO|exact zL rfl) [c39_o11, zG, q]
    refine W.seq (W.chunk ?_)
    simp (disch := first|omega|exact zE rfl|exact zO|exact zL rfl) [zG, q]
    exact kR _ _ (by simp [T.get, q])
def CX (M : List (List Int)) (x : Nat) (C : List Nat) : Prop := ∀ c, c ∈ C ↔ ∃ j, j < x ∧ 0 < dg M j ∧ clN M j = c
theorem CX.init : CX M 0 [] := fun c => ⟨fun h => (by cases h), fun ⟨j, h, _⟩ => by omega⟩
theorem CX.skip {x : Nat} {C : List Nat} (l : CX M x C) (h : ¬ 0 < dg M x) : CX M (x + 1) C := fun c =>
  ⟨fun q => by obtain ⟨j, a, b⟩ := (l c).1 q; exact ⟨j, by omega, b⟩, fun ⟨j, a, b1, b2⟩ => by
    by_cases e : j = x
    · rw [e] at b1; exact absurd b1 h
    · exact (l c).2 ⟨j, by omega, b1, b2⟩⟩
theorem CX.put {x : Nat} {C : List Nat} (l : CX M x C) (h : 0 < dg M x) : CX M (x + 1) (ins (clN M x) C) := fun c => by
  rw [mem_ins]
  constructor
  · rintro (rfl | q)
    · exact ⟨x, by omega, h, rfl⟩
    · obtain ⟨j, a, b⟩ := (l c).1 q; exact ⟨j, by omega, b⟩
  · rintro ⟨j, a, b1, b2⟩
    by_cases e : j = x
    · rw [e] at b2; exact .inl b2.symm
    · exact .inr ((l c).2 ⟨j, by omega, b1, b2⟩)
structure SG (A h : Heap) (C : List Nat) : Prop where
  k : Kp (fun _ => False) A h
  gy : h.get A.size = .map (st C)
  gp : h.get (A.size + 1) = .cells 0 1 [.map A.size]
theorem SG.put {A h : Heap} {C : List Nat} (t : SG A h C) (c : Nat) : Eff.app (.mput A.size (st (ins c C))) h = some (h.upd A.size (.map (st (ins c C)))) ∧ SG A (h.upd A.size (.map (st (ins c C)))) (ins c C) := by
  have hN : h.N ≤ A.size := by rw [t.k.N]; unfold Heap.size; omega
  have hlt := get_lt t.gy (by simp)
  exact ⟨mput_gen h _ _ _ hN t.gy, t.k.updn _ _ hN (Nat.le_refl _), upd_same _ _ _ hN hlt, by rw [upd_ne _ _ _ _ hN (by omega)]; exact t.gp⟩
structure C39 (A : Heap) (M : List (List Int)) (qm q8 q9 qc : Nat) : Prop where
  gm : A.get qm = .cells 0 65 (matC M)
  g8 : A.get q8 = .cells 0 64 (bls (ldF M) 64)
  g9 : A.get q9 = .cells 0 1 [.slice qc 0 M.length M.length]
  gc : A.get qc = .cells 1 M.length (gs (clsL M))
theorem C39.kp {A B : Heap} {qm q8 q9 qc : Nat} (c : C39 A M qm q8 q9 qc) (k : Kp (fun _ => False) A B) : C39 B M qm q8 q9 qc :=
  ⟨k.at c.gm (by simp) id, k.at c.g8 (by simp) id, k.at c.g9 (by simp) id, k.at c.gc (by simp) id⟩
theorem c39_s (J : CallF) (hm : isMat M = true) {A : Heap} {qm q8 q9 qc i x : Nat} (C9 : C39 A M qm q8 q9 qc) (hi : i < M.length) (hx : x < M.length) (nb : ¬ bigD M i x) :
    Tr tbl J (.trim [[false], [true, true], [true, false, false], [false, true, false], [true, true, false], [false, true, true, false, false], [true, true, true, false, false]] c39_b1) (fun s h => ∃ C, CX M x C ∧ SG A h C ∧ s.get [false] = G i ∧ s.get [true, true] = .ptr qm 0 65 ∧ s.get [true, false, false] = .ptr q8 0 64 ∧ s.get [false, true, false] = .ptr q9 0 1 ∧ s.get [true, true, false] = .ptr (A.size + 1) 0 1 ∧ s.get [false, true, true, false, false] = G M.length ∧ s.get [true, true, true, false, false] = G x) .normal
      (fun s h => ∃ C, CX M (x + 1) C ∧ SG A h C ∧ s.get [false] = G i ∧ s.get [true, true] = .ptr qm 0 65 ∧ s.get [true, false, false] = .ptr q8 0 64 ∧ s.get [false, true, false] = .ptr q9 0 1 ∧ s.get [true, true, false] = .ptr (A.size + 1) 0 1 ∧ s.get [false, true, true, false, false] = G M.length ∧ s.get [true, true, true, false, false] = G ((x + 1 : Nat) : Int)) := by
  have h8 := isMat_n hm
  have lm := matC_len M
  have e0 : (matC M)[0]? = some (G M.length) := rfl
  have e0' := getI e0
  have l64 := bls_len (ldF M) 64
  have a1 := bls_get (ldF M) (i := i * 8 + x) (by omega) rfl
  have a1' := getI a1
  have lif := ldF_iff hm hi hx
  have cx' : (gs (clsL M))[x]? = some (G (clN M x)) := gl_at _ hx
  have cx'' := getI cx'
  refine Tr.w fun s1 H1 hp R kR => W.trim ?_
  obtain ⟨C, cx, sg, q⟩ := hp
  have C1 := C9.kp sg.k
  have g9 := C1.g9
  have gc := C1.gc
  have g8 := C1.g8
  have gm := C1.gm
  have gp := sg.gp
  have l0 := c39_k (i := i) (x8 := .ptr q8 0 64) (x10 := .ptr (A.size + 1) 0 1) J hm C1.gm C1.g9 C1.gc hx
  rw [show dgF M x 0 = 0 from rfl] at l0
  have ga := mapA_at sg.gy
  have pst := put_st (clN M x) C
  obtain ⟨mp, sg2⟩ := sg.put (clN M x)
  have nd : ldF M (i * 8 + x) = true → ¬ 1 < dg M x := fun h d => nb ⟨hx, lif.1 h, d⟩
  by_cases d : 0 < dg M x
  · have cx2 := cx.put d
    clear C1 C9 hm nb lif sg cx
    generalize ins (clN M x) C = C2 at *
    generalize he2 : st C2 = e2 at *
    generalize st C = e1 at *
    generalize matC M = cm at *
    generalize dg M x = dd at *
    generalize bls (ldF M) 64 = cl at *
    generalize ldF M (i * 8 + x) = bb at *
    generalize clN M x = u at *
    generalize gs (clsL M) = cc at *
    cases bb
    all_goals
      try have nd := nd rfl
      refine W.seq (W.chunk ?_)
      simp (disch := first|omega|exact zE rfl|exact zO|exact zL rfl) [c39_o7, zG, q]
      refine W.seq (W.chunk ?_)
      simp (disch := first|omega|exact zE rfl|exact zO|exact zL rfl) [zG, q]
      refine W.seq (W.block ?_)
      refine W.seq (W.chunk ?_)
      simp (disch := first|omega|exact zE rfl|exact zO|exact zL rfl) [c39_o8, zG, q]
      refine W.seq (W.chunk ?_)
      simp (disch := first|omega|exact zE rfl|exact zO|exact zL rfl) [c39_o9, zG, q]
      refine W.assoc ?_
      refine W.seq (W.chunk ?_)
      simp (disch := first|omega|exact zE rfl|exact zO|exact zL rfl) [c39_o10, zG, q, gm, e0, e0', lm]
      refine W.seq (W.block ?_)
      refine W.use (l0) (by simp (disch := first|omega|exact zE rfl|exact zO|exact zL rfl) [zG, q]) fun s1 H1 hp => ?_
      obtain ⟨rfl, q⟩ := hp
      try simp only [zW, if_true]
      refine W.assoc ?_
      refine W.seq (W.chunk ?_)
      simp (disch := first|omega|exact zE rfl|exact zO|exact zL rfl) [c39_o16, zG, q, g8, a1, a1', l64]
      refine W.seq (W.chunk ?_)
      simp (disch := first|omega|exact zE rfl|exact zO|exact zL rfl) [c39_o17, zG, q]
      refine W.seq (W.chunk ?_)
      simp (disch := first|omega|exact zE rfl|exact zO|exact zL rfl) [c39_o18, zG, q]
      refine W.chunk ?_
      simp (disch := first|omega|exact zE rfl|exact zO|exact zL rfl) [c39_o19, zG, q, gp, g9, gc, cx', cx'', ga, pst, mp, -evDraw_c, evDraw_0]
      refine W.chunk ?_
      simp (disch := first|omega|exact zE rfl|exact zO|exact zL rfl) [c39_o20, zG, q]
      exact kR _ _ ⟨_, cx2, sg2, by simp [T.get, q]⟩
  · have cx2 := cx.skip d
    clear C1 C9 hm nb lif sg2 cx
    generalize matC M = cm at *
    generalize dg M x = dd at *
    generalize bls (ldF M) 64 = cl at *
    generalize ldF M (i * 8 + x) = bb at *
    generalize clN M x = u at *
    generalize gs (clsL M) = cc at *
    cases bb
    all_goals
      refine W.seq (W.chunk ?_)
      simp (disch := first|omega|exact zE rfl|exact zO|exact zL rfl) [c39_o7, zG, q]
      refine W.seq (W.chunk ?_)
      simp (disch := first|omega|exact zE rfl|exact zO|exact zL rfl) [zG, q]
      refine W.seq (W.block ?_)
      refine W.seq (W.chunk ?_)
      simp (disch := first|omega|exact zE rfl|exact zO|exact zL rfl) [c39_o8, zG, q]
      refine W.seq (W.chunk ?_)
      simp (disch := first|omega|exact zE rfl|exact zO|exact zL rfl) [c39_o9, zG, q]
      refine W.assoc ?_
      refine W.seq (W.chunk ?_)
      simp (disch := first|omega|exact zE rfl|exact zO|exact zL rfl) [c39_o10, zG, q, gm, e0, e0', lm]
      refine W.seq (W.block ?_)
      refine W.use (l0) (by simp (disch := first|omega|exact zE rfl|exact zO|exact zL rfl) [zG, q]) fun s1 H1 hp => ?_
      obtain ⟨rfl, q⟩ := hp
      try simp only [zW, if_true]
      refine W.assoc ?_
      refine W.seq (W.chunk ?_)
      simp (disch := first|omega|exact zE rfl|exact zO|exact zL rfl) [c39_o16, zG, q, g8, a1, a1', l64]
      refine W.seq (W.chunk ?_)
      simp (disch := first|omega|exact zE rfl|exact zO|exact zL rfl) [c39_o17, zG, q]
      refine W.seq (W.chunk ?_)
      simp (disch := first|omega|exact zE rfl|exact zO|exact zL rfl) [c39_o18, zG, q]
      refine W.chunk ?_
      simp (disch := first|omega|exact zE rfl|exact zO|exact zL rfl) [c39_o19, zG, q, -evDraw_c, evDraw_0]
      refine W.chunk ?_
      simp (disch := first|omega|exact zE rfl|exact zO|exact zL rfl) [c39_o20, zG, q]
      exact kR _ _ ⟨_, cx2, sg, by simp [T.get, q]⟩
end
section
variable {M : List (List Int)}
theorem c39_t (J : CallF) (hm : isMat M = true) {A : Heap} {qm q8 q9 qc i j0 : Nat} (C9 : C39 A M qm q8 q9 qc) (hi : i < M.length) (hb : bigD M i j0) (hn : ∀ k, k < j0 → ¬ bigD M i k) : ∀ d x, x + d = j0 →
    Tr tbl J c39_l1 (fun s h => ∃ C, CX M x C ∧ SG A h C ∧ s.get [false] = G i ∧ s.get [true, true] = .ptr qm 0 65 ∧ s.get [true, false, false] = .ptr q8 0 64 ∧ s.get [false, true, false] = .ptr q9 0 1 ∧ s.get [true, true, false] = .ptr (A.size + 1) 0 1 ∧ s.get [false, true, true, false, false] = G M.length ∧ s.get [true, true, true, false, false] = G x) .ret (fun s h => s.get [true, false] = G (-2) ∧ s.get [false, true] = G 0) := by
  have h8 := isMat_n hm
  have lm := matC_len M
  have e0 : (matC M)[0]? = some (G M.length) := rfl
  have e0' := getI e0
  have l64 := bls_len (ldF M) 64
  intro d
  induction d with
  | zero =>
    intro x hx
    obtain rfl : x = j0 := by omega
    obtain ⟨hx, r, nd⟩ := hb
    have a1 := bls_get (ldF M) (i := i * 8 + x) (by omega) ((ldF_iff hm hi hx).2 r)
    have a1' := getI a1
    refine Tr.out ?_ (by simp)
    refine Tr.w fun s1 H1 hp R kR => W.trim ?_
    obtain ⟨C, cx, sg, q⟩ := hp
    have C1 := C9.kp sg.k
    have g8 := C1.g8
    have gm := C1.gm
    have l0 := c39_k (i := i) (x8 := .ptr q8 0 64) (x10 := .ptr (A.size + 1) 0 1) J hm C1.gm C1.g9 C1.gc hx
    rw [show dgF M x 0 = 0 from rfl] at l0
    clear C1 C9 hm r sg cx hn
    generalize matC M = cm at *
    generalize dg M x = dd at *
    generalize bls (ldF M) 64 = cl at *
    refine W.seq (W.chunk ?_)
    simp (disch := first|omega|exact zE rfl|exact zO|exact zL rfl) [c39_o7, zG, q]
    refine W.seq (W.chunk ?_)
    simp (disch := first|omega|exact zE rfl|exact zO|exact zL rfl) [zG, q]
    refine W.seq (W.block ?_)
    refine W.seq (W.chunk ?_)
    simp (disch := first|omega|exact zE rfl|exact zO|exact zL rfl) [c39_o8, zG, q]
    refine W.seq (W.chunk ?_)
    simp (disch := first|omega|exact zE rfl|exact zO|exact zL rfl) [c39_o9, zG, q]
    refine W.assoc ?_
    refine W.seq (W.chunk ?_)
    simp (disch := first|omega|exact zE rfl|exact zO|exact zL rfl) [c39_o10, zG, q, gm, e0, e0', lm]
    refine W.seq (W.block ?_)
    refine W.use (l0) (by simp (disch := first|omega|exact zE rfl|exact zO|exact zL rfl) [zG, q]) fun s1 H1 hp => ?_
    obtain ⟨rfl, q⟩ := hp
    try simp only [zW, if_true]
    refine W.assoc ?_
    refine W.seq (W.chunk ?_)
    simp (disch := first|omega|exact zE rfl|exact zO|exact zL rfl) [c39_o16, zG, q, g8, a1, a1', l64]
    refine W.seq (W.chunk ?_)
    simp (disch := first|omega|exact zE rfl|exact zO|exact zL rfl) [c39_o17, zG, q]
    exact kR _ _ (by simp [T.get, q])
  | succ d ih =>
    intro x hx
    exact Tr.next (c39_s J hm C9 hi (by have := hb.1; omega) (hn x (by omega))) (ih (x + 1) (by omega))
theorem c39_n (J : CallF) (hm : isMat M = true) {A : Heap} {qm q8 q9 qc i : Nat} (C9 : C39 A M qm q8 q9 qc) (hi : i < M.length) (hn : ∀ k, ¬ bigD M i k) : ∀ d x, x + d = M.length →
    Tr tbl J c39_l1 (fun s h => ∃ C, CX M x C ∧ SG A h C ∧ s.get [false] = G i ∧ s.get [true, true] = .ptr qm 0 65 ∧ s.get [true, false, false] = .ptr q8 0 64 ∧ s.get [false, true, false] = .ptr q9 0 1 ∧ s.get [true, true, false] = .ptr (A.size + 1) 0 1 ∧ s.get [false, true, true, false, false] = G M.length ∧ s.get [true, true, true, false, false] = G x) (.exit 0)
      (fun s h => ∃ C, CX M M.length C ∧ SG A h C ∧ s.get [false] = G i ∧ s.get [true, true] = .ptr qm 0 65 ∧ s.get [true, false, false] = .ptr q8 0 64 ∧ s.get [false, true, false] = .ptr q9 0 1 ∧ s.get [true, true, false] = .ptr (A.size + 1) 0 1) := by
  have h8 := isMat_n hm
  intro d
  induction d with
  | zero =>
    intro x hx
    obtain rfl : x = M.length := by omega
    refine Tr.out ?_ (by simp)
    refine Tr.w fun s1 H1 hp R kR => W.trim ?_
    obtain ⟨C, cx, sg, q⟩ := hp
    clear C9 hm hn
    generalize hnn : M.length = n at *
    refine W.seq (W.chunk ?_)
    simp (disch := first|omega|exact zE rfl|exact zO|exact zL rfl) [c39_o7, zG, q]
    refine W.seq (W.chunk ?_)
    simp (disch := first|omega|exact zE rfl|exact zO|exact zL rfl) [zG, q]
    exact kR _ _ ⟨C, cx, sg, by simp [T.get, q]⟩
  | succ d ih =>
    intro x hx
    exact Tr.next (c39_s J hm C9 hi (by omega) (hn x)) (ih (x + 1) (by omega))
theorem c39_bad (J : CallF) (k54 : K54 J) (hJ : ∀ a h, J 39 a h = none) (h : Heap) (i : Int) {y : AV} (hy : MR h y M) (hm : isMat M = false) : CallsTo tbl J 39 [y, G i] h (.tup [G 0, G 2], [], false) := by
  refine Tr.fnv (cf := c39) (e := .ret) (s := T.set (T.set .leaf [] y) [false] (G i)) (by decide) rfl (hJ _ _) rfl rfl rfl (by simp) ?_
  obtain ⟨cs, k54, hl, hc⟩ := k54 ⟨h.get, h.size, []⟩ y M (hy.lo [])
  have rp : (List.replicate 65 (AV.int .i64 0)).length = 65 := List.length_replicate
  have ep : putAt (List.replicate 65 (AV.int .i64 0)) 0 cs = cs := putAt_all _ _ (by omega)
  refine Tr.w fun s1 H1 hp R kR => ?_
  obtain ⟨rfl, rfl⟩ := hp
  have q : True := trivial
  generalize hZ : List.replicate 65 (AV.int .i64 0) = Z at *
  rw [hm] at k54
  refine W.seq (W.chunk ?_)
  simp (disch := first|omega|exact zE rfl|exact zO|exact zL rfl) [-List.reduceReplicate, c39_o0, size_mk, get_mk_lt, get_mk_ge, frameOf, Eff.app, Heap.setOwn, q]
  refine W.seq (W.chunk ?_)
  simp (disch := first|omega|exact zE rfl|exact zO|exact zL rfl) [-List.reduceReplicate, c39_o1, size_mk, get_mk_lt, get_mk_ge, frameOf, Eff.app, Heap.setOwn, q, k54, hZ, ep, rp, hl, frameOf]
  refine W.assoc ?_
  refine W.seq (W.chunk ?_)
  simp (disch := first|omega|exact zE rfl|exact zO|exact zL rfl) [-List.reduceReplicate, c39_o2, size_mk, get_mk_lt, get_mk_ge, frameOf, Eff.app, Heap.setOwn, q]
  refine W.seq (W.chunk ?_)
  simp (disch := first|omega|exact zE rfl|exact zO|exact zL rfl) [-List.reduceReplicate, c39_o3, size_mk, get_mk_lt, get_mk_ge, frameOf, Eff.app, Heap.setOwn, q]
  exact kR _ _ ⟨[G 0, G 2], by simp [T.get, c39, evRess, evRes], rfl⟩
theorem c39_out (J : CallF) (k54 : K54 J) (k57 : K57 J) (hJ : ∀ a h, J 39 a h = none) (h : Heap) (i : Int) {y : AV} (hy : MR h y M) (hm : isMat M = true) (hi : ¬ (0 ≤ i ∧ i < M.length)) : CallsTo tbl J 39 [y, G i] h (.tup [G 0, G 2], [], false) := by
  refine Tr.fnv (cf := c39) (e := .ret) (s := T.set (T.set .leaf [] y) [false] (G i)) (by decide) rfl (hJ _ _) rfl rfl rfl (by simp) ?_
  have h8 := isMat_n hm
  obtain ⟨cs, k54, hl, hc⟩ := k54 ⟨h.get, h.size, []⟩ y M (hy.lo [])
  have rp : (List.replicate 65 (AV.int .i64 0)).length = 65 := List.length_replicate
  obtain rfl := hc hm
  have ep : putAt (List.replicate 65 (AV.int .i64 0)) 0 (matC M) = matC M := putAt_all _ _ (by omega)
  have e0 : (matC M)[0]? = some (G M.length) := rfl
  have e0' := getI e0
  have d : ¬ (0 ≤ i ∧ i ≤ (M.length : Int) - 1) := by omega
  have k57' := fun h => k57 i 0 ((M.length : Int) - 1) h
  rw [decide_eq_false d] at k57'
  refine Tr.w fun s1 H1 hp R kR => ?_
  obtain ⟨rfl, rfl⟩ := hp
  have q : True := trivial
  generalize hZ : List.replicate 65 (AV.int .i64 0) = Z at *
  rw [hm] at k54
  clear hi d
  generalize matC M = cm at *
  refine W.seq (W.chunk ?_)
  simp (disch := first|omega|exact zE rfl|exact zO|exact zL rfl) [-List.reduceReplicate, c39_o0, size_mk, get_mk_lt, get_mk_ge, frameOf, Eff.app, Heap.setOwn, q]
  refine W.seq (W.chunk ?_)
  simp (disch := first|omega|exact zE rfl|exact zO|exact zL rfl) [-List.reduceReplicate, c39_o1, size_mk, get_mk_lt, get_mk_ge, frameOf, Eff.app, Heap.setOwn, q, k54, hZ, ep, rp, hl, frameOf]
  refine W.assoc ?_
  refine W.seq (W.chunk ?_)
  simp (disch := first|omega|exact zE rfl|exact zO|exact zL rfl) [-List.reduceReplicate, c39_o2, size_mk, get_mk_lt, get_mk_ge, frameOf, Eff.app, Heap.setOwn, q, e0, e0', hl, k57', app_if, app_if']
  refine W.seq (W.chunk ?_)
  simp (disch := first|omega|exact zE rfl|exact zO|exact zL rfl) [-List.reduceReplicate, c39_o3, size_mk, get_mk_lt, get_mk_ge, frameOf, Eff.app, Heap.setOwn, q]
  exact kR _ _ ⟨[G 0, G 2], by simp [T.get, c39, evRess, evRes], rfl⟩
theorem g39_fin {A H : Heap} {qm q8 q9 qc : Nat} {C : List Nat} (C9 : C39 A M qm q8 q9 qc) (sg : SG A H C) :
    ∃ b14 b15 q10, A.size + 1 = q10 ∧ (H.plus [.map []]).size = b14 ∧ ((H.plus [.map []]).plus [.cells 0 1 [.map H.size]]).size = b15 ∧
      CG (((H.plus [.map []]).plus [.cells 0 1 [.map H.size]]).plus [.cells 0 1 [.func 68 (capG b14 qm q9 q8 b15 q10)]]) M b14 H.size qm q9 qc q8 b15 q10 A.size C ∧
      (((H.plus [.map []]).plus [.cells 0 1 [.map H.size]]).plus [.cells 0 1 [.func 68 (capG b14 qm q9 q8 b15 q10)]]).get H.size = .map (sv (fun c => (chv M c : Int)) []) := by
  refine ⟨_, _, _, rfl, rfl, rfl, ?_, ?_⟩
  · have k1 : Kp (fun _ => False) H (((H.plus [.map []]).plus [.cells 0 1 [.map H.size]]).plus [.cells 0 1 [.func 68 (capG (H.plus [.map []]).size qm q9 q8 ((H.plus [.map []]).plus [.cells 0 1 [.map H.size]]).size (A.size + 1))]]) := ((Kp.plus _ _).trans (Kp.plus _ _)).trans (Kp.plus _ _)
    have c := (C9.kp sg.k).kp k1
    exact ⟨plus_keep _ (plus_at0 _ _ _ _ rfl) (by simp), c.gm, c.g9, c.gc, c.g8, plus_at0 _ _ _ _ rfl, k1.at sg.gp (by simp) id, k1.at sg.gy (by simp) id, by rw [k1.N]; unfold Heap.size; omega, by have := get_lt sg.gy (by simp); omega⟩
  · exact plus_keep _ (plus_keep _ (plus_at0 _ _ _ _ rfl) (by simp)) (by simp)
theorem c39_ok (J : CallF) (k54 : K54 J) (k57 : K57 J) (k62 : K62 J) (k67 : K67 J) (h68 : ∀ a h, J 68 a h = none) (hJ : ∀ a h, J 39 a h = none) (h : Heap) {i : Nat} {y : AV} (hy : MR h y M) (hm : isMat M = true) (hi : i < M.length) : CallsTo tbl J 39 [y, G i] h (.tup [G (gwV M i), G 0], [], false) := by
  refine Tr.fnv (cf := c39) (e := .ret) (s := T.set (T.set .leaf [] y) [false] (G i)) (by decide) rfl (hJ _ _) rfl rfl rfl (by simp) ?_
  have h8 := isMat_n hm
  have fs := fr_size h
  obtain ⟨cs, k54, hl, hc⟩ := k54 (frameOf h) y M (hy.lo [])
  have rp : (List.replicate 65 (AV.int .i64 0)).length = 65 := List.length_replicate
  obtain rfl := hc hm
  have ep : putAt (List.replicate 65 (AV.int .i64 0)) 0 (matC M) = matC M := putAt_all _ _ (by omega)
  have e0 : (matC M)[0]? = some (G M.length) := rfl
  have e0' := getI e0
  have gm : ((frameOf h).plus [.cells 0 65 (matC M)]).get h.size = .cells 0 65 (matC M) := plus_at0 _ _ _ _ fs
  have d : 0 ≤ (i : Int) ∧ (i : Int) ≤ (M.length : Int) - 1 := by omega
  have k57' := fun h => k57 i 0 ((M.length : Int) - 1) h
  rw [decide_eq_true d] at k57'
  have kA : Kp (fun _ => False) (frameOf h) ((frameOf h).plus [.cells 0 65 (matC M)]) := Kp.plus _ _
  obtain ⟨A, qc, kB, g8, g9, gc, t4⟩ := n39_4 (i := i) J k67 k62 hm gm
  have gA := kB.at gm (by simp) id
  generalize hF : (frameOf h).plus [.cells 0 65 (matC M)] = F at *
  have C9 : C39 A M h.size F.size (F.size + 1) qc := ⟨gA, g8, g9, gc⟩
  have sg0 : SG A ((A.plus [.map []]).plus [.cells 0 1 [.map A.size]]) [] := ⟨(Kp.plus _ _).trans (Kp.plus _ _), plus_keep _ (plus_at0 _ _ _ _ rfl) (by simp), by rw [plus_at0 _ _ _ _ (by rw [plus_size]; rfl)]⟩
  have p0 : Eff.app (.put (A.size + 1) 1 0 [.map A.size]) ((A.plus [.map []]).plus [.cells 0 1 [.nilm]]) = some ((A.plus [.map []]).plus [.cells 0 1 [.map A.size]]) := put_plus0 (A.plus [.map []]) 1 0 0 [.nilm] [.map A.size] [] (A.size + 1) (by rw [plus_size]; rfl) (by simp)
  have gA2 := sg0.k.at gA (by simp) id
  have ex : ∃ C, CX M 0 C ∧ SG A ((A.plus [.map []]).plus [.cells 0 1 [.map A.size]]) C := ⟨[], CX.init, sg0⟩
  refine Tr.w fun s1 H1 hp R kR => ?_
  obtain ⟨rfl, rfl⟩ := hp
  have q : True := trivial
  generalize hZ : List.replicate 65 (AV.int .i64 0) = Z at *
  rw [hm] at k54
  clear d hc
  rcases gw_or M i with ⟨j0, hb, hn⟩ | hn
  · have l1 := c39_t J hm C9 hi hb hn j0 0 (by omega)
    rw [gw_t hb] at kR
    clear C9 hb hn hy kA kB g8 g9 gc sg0
    generalize hcm : matC M = cm at *
    refine W.seq (W.chunk ?_)
    simp (disch := first|omega|exact zE rfl|exact zO|exact zL rfl) [-List.reduceReplicate, c39_o0, zG, q]
    refine W.seq (W.chunk ?_)
    simp (disch := first|omega|exact zE rfl|exact zO|exact zL rfl) [-List.reduceReplicate, c39_o1, zG, q, k54, hZ, ep, rp, hl, app_if, app_if', fs, hF]
    refine W.assoc ?_
    refine W.seq (W.chunk ?_)
    simp (disch := first|omega|exact zE rfl|exact zO|exact zL rfl) [-List.reduceReplicate, c39_o2, zG, q, gm, e0, e0', hl, k57', app_if, app_if']
    refine W.seq (W.chunk ?_)
    simp (disch := first|omega|exact zE rfl|exact zO|exact zL rfl) [-List.reduceReplicate, c39_o3, zG, q]
    refine W.seq (W.use (t4) (by simp (disch := first|omega|exact zE rfl|exact zO|exact zL rfl) [-List.reduceReplicate, zG, q]) fun s1 H1 hp => ?_)
    obtain ⟨rfl, q⟩ := hp
    try simp only [zW, if_true]
    refine W.seq (W.chunk ?_)
    simp (disch := first|omega|exact zE rfl|exact zO|exact zL rfl) [-List.reduceReplicate, c39_o5, zG, q, p0, plus_size]
    refine W.assoc ?_
    refine W.seq (W.chunk ?_)
    simp (disch := first|omega|exact zE rfl|exact zO|exact zL rfl) [-List.reduceReplicate, c39_o6, zG, q, gA2, e0, e0', hl]
    refine W.seq (W.block ?_)
    refine W.use (l1) (by simp (disch := first|omega|exact zE rfl|exact zO|exact zL rfl) [-List.reduceReplicate, zG, q, ex]) fun s1 H1 hp => ?_
    obtain ⟨q4, q5⟩ := hp
    try simp only [zW, if_true]
    exact kR _ _ ⟨[G (-2), G 0], by simp [T.get, c39, evRess, evRes, q4, q5], rfl⟩
  · have l1 := c39_n J hm C9 hi hn M.length 0 (by omega)
    rw [gw_f hn] at kR
    have bd := chv_bd hm hi
    obtain ⟨hcn, hmu, _⟩ := clN_ok hm hi
    have hcn : clN M i < M.length := by omega
    have hid := clN_id hm hi
    have ci : (gs (clsL M))[i]? = some (G (clN M i)) := gl_at _ hi
    have ci' := getI ci
    refine W.seq (W.chunk ?_)
    simp (disch := first|omega|exact zE rfl|exact zO|exact zL rfl) [-List.reduceReplicate, c39_o0, zG, q]
    refine W.seq (W.chunk ?_)
    simp (disch := first|omega|exact zE rfl|exact zO|exact zL rfl) [-List.reduceReplicate, c39_o1, zG, q, k54, hZ, ep, rp, hl, app_if, app_if', fs, hF]
    refine W.assoc ?_
    refine W.seq (W.chunk ?_)
    simp (disch := first|omega|exact zE rfl|exact zO|exact zL rfl) [-List.reduceReplicate, c39_o2, zG, q, gm, e0, e0', hl, k57', app_if, app_if']
    refine W.seq (W.chunk ?_)
    simp (disch := first|omega|exact zE rfl|exact zO|exact zL rfl) [-List.reduceReplicate, c39_o3, zG, q]
    refine W.seq (W.use (t4) (by simp (disch := first|omega|exact zE rfl|exact zO|exact zL rfl) [-List.reduceReplicate, zG, q]) fun s1 H1 hp => ?_)
    obtain ⟨rfl, q⟩ := hp
    try simp only [zW, if_true]
    refine W.seq (W.chunk ?_)
    simp (disch := first|omega|exact zE rfl|exact zO|exact zL rfl) [-List.reduceReplicate, c39_o5, zG, q, p0, plus_size]
    refine W.assoc ?_
    refine W.seq (W.chunk ?_)
    simp (disch := first|omega|exact zE rfl|exact zO|exact zL rfl) [-List.reduceReplicate, c39_o6, zG, q, gA2, e0, e0', hl]
    refine W.seq (W.block ?_)
    refine W.use (l1) (by simp (disch := first|omega|exact zE rfl|exact zO|exact zL rfl) [-List.reduceReplicate, zG, q, ex]) fun s1 H1 hp => ?_
    obtain ⟨C, cx, sg, q⟩ := hp
    try simp only [zW, if_true]
    refine W.seq (W.chunk ?_)
    simp (disch := first|omega|exact zE rfl|exact zO|exact zL rfl) [-List.reduceReplicate, c39_o21, zG, q]
    refine W.seq (W.chunk ?_)
    simp (disch := first|omega|exact zE rfl|exact zO|exact zL rfl) [-List.reduceReplicate, c39_o22, zG, q]
    refine W.seq (W.chunk ?_)
    simp (disch := first|omega|exact zE rfl|exact zO|exact zL rfl) [-List.reduceReplicate, c39_o23, zG, q]
    refine W.fix fun B hB => ?_
    obtain ⟨b14, b15, q10, hq10, hb14, hb15, cg, gz⟩ := g39_fin C9 sg
    rw [hq10, hb14, hb15] at hB
    rw [hq10, hb14, hb15]
    rw [show capG b14 h.size (F.size + 1) F.size b15 q10 = [AV.ptr b14 0 1, .ptr h.size 0 65, .ptr (F.size + 1) 0 1, .ptr F.size 0 64, .ptr b15 0 1, .ptr q10 0 1] from rfl, ← hB] at cg gz
    obtain ⟨K', rg, call⟩ := c68_ok J h68 hm cx _ (clN M i) hcn hid rfl B [] cg gz
    rw [← chv_mu hm hi hcn hmu] at call
    refine W.point (by decide) call ?_
    have k68 := pt_at (I := J) (f := 68) (args := G (clN M i) :: capG b14 h.size (F.size + 1) F.size b15 q10) (h := B) (x := (G (chv M i), K'.own, true))
    generalize pt J 68 (G (clN M i) :: capG b14 h.size (F.size + 1) F.size b15 q10) B (G (chv M i), K'.own, true) = J at *
    have g15 := cg.g15
    have g9 := cg.g9
    have gc := cg.gc
    generalize chv M i = z at *
    generalize clN M i = c at *
    generalize gs (clsL M) = cc at *
    refine W.seq (W.chunk ?_)
    simp (disch := first|omega|exact zE rfl|exact zO|exact zL rfl) [-List.reduceReplicate, c39_o24, zG, q, g15, g9, gc, ci, ci', k68, -evDraw_c, evDraw_0]
    refine W.ret ?_
    try simp only [zW, if_true]
    exact kR _ _ ⟨[G (z - 1 : Int), G 0], by simp (disch := omega) [T.get, c39, evRess, evRes], rfl⟩
end
def Post39 (a : AL) (_ : Heap) (v : AV) (own : List AObj) : Prop := own = [] ∧ (¬ inL a → v = .tup [G 0, G 2]) ∧ (inL a → v = .tup [G (gwV a.M a.i.toNat), G 0])
noncomputable def T38 : CallF := addK tbl T37 39 PreL Post39
theorem t38 : Sound Go.Proofs.Try.prog T38 := Sound.addK follows ok t37 (by decide) _ _
abbrev K39 (J : CallF) : Prop := ∀ (h : Heap) (a : AL), MR h a.y a.M → ∃ v own, J 39 [a.y, G a.i] h = some (v, own, false) ∧ Post39 a h v own
theorem k54_37 : K54 T37 := fun h y M hy => by
  simp (disch := decide) only [T37, T36, T35, T34, T33, T32, T31, T30, T29, T28, T27, T26, T25, T24, T23, T22, T21, T20, T19, T18, T17, T16, T15, T14, T13, T12, T11, T10, T9, T8, T7, T6, T5, T4, T3, T2, T1, R21, R20, R19, R18, R17, R16, R15, R14, R13, R12, R11, R10, R9, R8, R7, R6, R5, R4, R3, R2, R1, addI_ne, addX_ne, addV_ne, addK_ne]
  exact k54 h y M hy
theorem k57_37 : K57 T37 := fun n lo hi h => by
  simp (disch := decide) only [T37, T36, T35, T34, T33, T32, T31, T30, T29, T28, T27, T26, T25, T24, T23, T22, T21, T20, T19, T18, T17, T16, T15, T14, T13, T12, T11, T10, T9, T8, T7, T6, T5, T4, T3, T2, T1, R21, R20, R19, R18, R17, R16, R15, R14, R13, R12, R11, R10, R9, R8, R7, R6, R5, R4, R3, R2, R1, addI_ne, addX_ne, addV_ne, addK_ne]
  exact k57 n lo hi h
theorem k62_37 : K62 T37 := fun h M hm => by
  simp (disch := decide) only [T37, T36, T35, T34, T33, T32, T31, T30, T29, T28, T27, T26, T25, T24, T23, T22, T21, T20, T19, T18, T17, T16, T15, T14, T13, T12, T11, T10, T9, T8, T7, addK_ne]
  exact k62 h M hm
theorem k67_37 : K67 T37 := fun h M hm => by
  simp (disch := decide) only [T37, T36, T35, T34, T33, T32, T31, T30, T29, T28, T27, T26, T25, T24, T23, T22, T21, T20, T19, T18, T17, T16, T15, T14, T13, T12, T11, T10, T9, T8, T7, T6, addK_ne]
  exact k67 h M hm
theorem k39 : K39 T38 := fun h a ha => addK_some (Pre := PreL) (Post := Post39) (fun a args h hp => by
  obtain ⟨hy, rfl⟩ := hp
  have hn : ∀ a h, T37 39 a h = none := (fun _ _ => by simp (disch := decide) only [T37, T36, T35, T34, T33, T32, T31, T30, T29, T28, T27, T26, T25, T24, T23, T22, T21, T20, T19, T18, T17, T16, T15, T14, T13, T12, T11, T10, T9, T8, T7, T6, T5, T4, T3, T2, T1, R21, R20, R19, R18, R17, R16, R15, R14, R13, R12, R11, R10, R9, R8, R7, R6, R5, R4, R3, R2, R1, addI_ne, addX_ne, addV_ne, addK_ne]; rfl)
  by_cases c : inL a
  · obtain ⟨c1, c2, c3⟩ := id c
    obtain ⟨i, hi⟩ : ∃ i : Nat, a.i = i := ⟨a.i.toNat, by omega⟩
    have hi2 : a.i.toNat = i := by omega
    refine ⟨_, _, ?_, rfl, fun n => absurd c n, fun _ => rfl⟩
    rw [hi2, hi]
    exact c39_ok T37 k54_37 k57_37 k62_37 k67_37 (fun _ _ => by simp (disch := decide) only [T37, T36, T35, T34, T33, T32, T31, T30, T29, T28, T27, T26, T25, T24, T23, T22, T21, T20, T19, T18, T17, T16, T15, T14, T13, T12, T11, T10, T9, T8, T7, T6, T5, T4, T3, T2, T1, R21, R20, R19, R18, R17, R16, R15, R14, R13, R12, R11, R10, R9, R8, R7, R6, R5, R4, R3, R2, R1, addI_ne, addX_ne, addV_ne, addK_ne]; rfl) hn h hy c1 (by omega)
  · refine ⟨_, _, ?_, rfl, fun _ => rfl, fun q => absurd q c⟩
    cases w : isMat a.M
    · exact c39_bad T37 k54_37 hn h a.i hy w
    · exact c39_out T37 k54_37 k57_37 hn h a.i hy w fun q => c ⟨w, q⟩) a _ h ⟨ha, rfl⟩
theorem cutM_len (M : List (List Int)) : (cutM M).length ≤ 9 := by unfold cutM; rw [List.length_map, List.length_take]; omega
end Go.Proofs.Ytjeemgaoonapgaa.Ev
