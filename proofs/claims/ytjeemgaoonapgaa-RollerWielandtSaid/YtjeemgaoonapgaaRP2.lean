/-
  Of the functions that this law reaches, part 2: what they answer. No condition.
-/
import Derived.Test.YtjeemgaoonapgaaRP1
import Derived.Test.YtjeemgaoonapgaaRP0
set_option linter.unusedVariables false
set_option linter.unusedSimpArgs false
namespace Go.Proofs.Ytjeemgaoonapgaa.Ev
open Go Go.AEv
section
variable {M : List (List Int)}
theorem wk_rep {k j : Nat} (w : Wk M k j j) : ∀ m, Wk M (k * m) j j
  | 0 => rfl
  | m + 1 => by rw [Nat.mul_succ]; exact (wk_rep w m).add w
theorem path_lt (hm : isMat M = true) {f : Nat → Nat} {k : Nat} (h0 : f 0 < M.length) (fe : ∀ t, t < k → 0 < ent M (f t) (f (t + 1))) : ∀ t, t ≤ k → f t < M.length
  | 0, _ => h0
  | t + 1, h => (ent_lt hm (fe t (by omega))).2
theorem res_one {j s : Nat} (hs : 1 ≤ s) (hp : PerS M j 1) : ∃ k, Wk M k j j ∧ (s : Int) ∣ (k : Int) - 1 := by
  have ex : 1 ≤ s ∧ ∃ k, Wk M k j j ∧ (s : Int) ∣ (k : Int) - (s : Int) := ⟨hs, 0, rfl, ⟨-1, by omega⟩⟩
  obtain ⟨d, hd, ⟨d1, kd, wd, c, hc⟩, mn⟩ := leastN (p := fun d => 1 ≤ d ∧ ∃ k, Wk M k j j ∧ (s : Int) ∣ (k : Int) - (d : Int)) s ex
  have all : ∀ k, Wk M k j j → d ∣ k := fun k w => by
    refine Classical.byContradiction fun nd => ?_
    have hr : k % d ≠ 0 := fun e => nd (Nat.dvd_of_mod_eq_zero e)
    have hr2 := Nat.mod_lt k (show 0 < d by omega)
    have hk := Nat.div_add_mod k d
    refine mn (k % d) hr2 ⟨by omega, k + kd * ((s - 1) * (k / d)), w.add (wk_rep wd _), ?_⟩
    generalize k / d = q at *
    generalize k % d = r at *
    refine ⟨q * (kd - c), ?_⟩
    have e1 : ((s - 1 : Nat) : Int) = (s : Int) - 1 := by omega
    have e2 : (k : Int) = d * q + r := by exact_mod_cast hk.symm
    have e3 : (kd : Int) = d + s * c := by omega
    rw [Int.natCast_add, Int.natCast_mul, Int.natCast_mul, e1, e2, e3]
    grind
  have := hp.2 d all
  have hd1 : d = 1 := Nat.dvd_one.1 this
  subst hd1
  exact ⟨kd, wd, c, by simpa using hc⟩
theorem s_conn {i j s : Nat} (hs : 1 ≤ s) (hp : PerS M j 1) (r : Rc M i j) : ∃ m, Wk M (s * m) i j := by
  obtain ⟨a, w⟩ := r
  obtain ⟨k, wk, c, hc⟩ := res_one hs hp
  have t := w.add (wk_rep wk ((s - 1) * a))
  have hd : (s : Int) ∣ ((a + k * ((s - 1) * a) : Nat) : Int) := by
    refine ⟨a + c * ((s - 1 : Nat) : Int) * a, ?_⟩
    have e1 : ((s - 1 : Nat) : Int) = (s : Int) - 1 := by omega
    have e3 : (k : Int) = 1 + s * c := by omega
    rw [Int.natCast_add, Int.natCast_mul, Int.natCast_mul, e1, e3]
    grind
  obtain ⟨m, hm⟩ := Int.natCast_dvd_natCast.1 hd
  exact ⟨m, by rw [← hm]; exact t⟩
theorem s_short (hm : isMat M = true) {i j s : Nat} (hi : i < M.length) : ∀ {m}, Wk M (s * m) i j → ∃ m', m' ≤ M.length - 1 ∧ Wk M (s * m') i j := by
  intro m
  induction m using Nat.strongRecOn with
  | _ m ih =>
    intro w
    by_cases c : m ≤ M.length - 1
    · exact ⟨m, c, w⟩
    · obtain ⟨f, f0, fk, fe⟩ := w.path
      have lt := path_lt hm (by rw [f0]; exact hi) fe
      obtain ⟨a, b, hab, hb, e⟩ := pigeon M.length (fun t => f (s * t)) fun t ht => lt _ (Nat.mul_le_mul_left s (by omega))
      have l1 : s * a ≤ s * m := Nat.mul_le_mul_left s (by omega)
      have l2 : s * b + s * (m - b) = s * m := by rw [← Nat.mul_add]; congr 1; omega
      have w1 := path_wk fe (s * a) 0 (by omega)
      have w2 := path_wk fe (s * (m - b)) (s * b) (by omega)
      rw [Nat.zero_add, f0, show f (s * a) = f (s * b) from e] at w1
      rw [l2, fk] at w2
      have w3 := w1.add w2
      rw [← Nat.mul_add] at w3
      exact ih (a + (m - b)) (by omega) w3
theorem cyc_go {F : Nat → Nat} {s : Nat} (hs : 1 ≤ s) (fe : ∀ t, t < s → 0 < ent M (F t) (F (t + 1))) (fz : F s = F 0) : ∀ e t, t < s → ∃ t', t' < s ∧ Wk M e (F t) (F t')
  | 0, t, ht => ⟨t, ht, rfl⟩
  | e + 1, t, ht => by
    by_cases c : t + 1 < s
    · obtain ⟨t', h1, h2⟩ := cyc_go hs fe fz e (t + 1) c
      exact ⟨t', h1, F (t + 1), fe t ht, h2⟩
    · obtain ⟨t', h1, h2⟩ := cyc_go hs fe fz e 0 (by omega)
      have := fe t ht
      rw [show t + 1 = s by omega, fz] at this
      exact ⟨t', h1, F 0, this, h2⟩
structure Girth (M : List (List Int)) (s : Nat) : Prop where
  p : 1 ≤ s
  e : ∃ c, c < M.length ∧ Wk M s c c
  m : ∀ k i, 1 ≤ k → i < M.length → Wk M k i i → s ≤ k
theorem girth_ex (hm : isMat M = true) (hp : perN M 0 ≠ 0) : ∃ s, s ≤ M.length ∧ Girth M s := by
  have h8 := isMat_n hm
  rcases cyc_or M 0 with ⟨c, hc⟩ | hc
  · have w := (cw_iff hm).1 hc.2.2.1
    obtain ⟨s, hs, ⟨s1, s2⟩, mn⟩ := leastN (p := fun k => 1 ≤ k ∧ ∃ i, i < M.length ∧ Wk M k i i) c ⟨hc.1, 0, by omega, w⟩
    exact ⟨s, Nat.le_trans hs hc.2.1, s1, s2, fun k i h1 h2 h3 => Nat.le_of_not_lt fun h => mn k h ⟨h1, i, h2, h3⟩⟩
  · exact absurd (noCyc_per hm (by omega) hc) hp
theorem girth_all (hm : isMat M = true) (g : Girth M M.length) : ∀ L i, i < M.length → Wk M L i i → M.length ∣ L := fun L => by
  induction L using Nat.strongRecOn with
  | _ L ih =>
    intro i hi w
    by_cases c : L = 0
    · subst c; exact ⟨0, rfl⟩
    · have h1 := g.m L i (by omega) hi w
      by_cases c2 : L = M.length
      · rw [c2]; exact Nat.dvd_refl _
      · obtain ⟨f, f0, fk, fe⟩ := w.path
        have lt := path_lt hm (by rw [f0]; exact hi) fe
        obtain ⟨a, b, hab, hb, e⟩ := pigeon M.length f fun t ht => lt t (by omega)
        have w0 := path_wk fe (b - a) a (by omega)
        rw [show a + (b - a) = b by omega, ← e] at w0
        have h2 := g.m (b - a) (f a) (by omega) (lt a (by omega)) w0
        have w1 := path_wk fe a 0 (by omega)
        have w2 := path_wk fe (L - b) b (by omega)
        rw [Nat.zero_add, f0, e] at w1
        rw [show b + (L - b) = L by omega, fk] at w2
        have h3 := ih (a + (L - b)) (by omega) i hi (w1.add w2)
        have h4 := Nat.dvd_add h3 (Nat.dvd_refl M.length)
        rwa [show a + (L - b) + M.length = L by omega] at h4
theorem reach_cyc (hm : isMat M = true) {s : Nat} (g : Girth M s) {F : Nat → Nat} (h0 : F 0 < M.length) (fe : ∀ t, t < s → 0 < ent M (F t) (F (t + 1))) (hR : ∀ i j, i < M.length → j < M.length → Rc M i j) {v : Nat} (hv : v < M.length) : ∃ d t, d ≤ M.length - s ∧ t < s ∧ Wk M d v (F t) := by
  have ltF := path_lt hm h0 fe
  have hs := g.p
  obtain ⟨d0, w0⟩ := hR v (F 0) hv h0
  obtain ⟨d, hd, ⟨t, ht, w⟩, mn⟩ := leastN (p := fun d => ∃ t, t < s ∧ Wk M d v (F t)) d0 ⟨0, by omega, w0⟩
  by_cases c : d ≤ M.length - s
  · exact ⟨d, t, c, ht, w⟩
  · exfalso
    obtain ⟨p, p0, pk, pe⟩ := w.path
    have ltp := path_lt hm (by rw [p0]; exact hv) pe
    obtain ⟨a, b, hab, hb, e⟩ := pigeon M.length (fun k => if k < d then p k else F (k - d)) fun k hk => by
      by_cases x : k < d
      · simp only [x, if_true]; exact ltp k (by omega)
      · simp only [x, if_false]; exact ltF (k - d) (by omega)
    by_cases x : b < d
    · simp only [x, show a < d by omega, if_true] at e
      have w1 := path_wk pe a 0 (by omega)
      have w2 := path_wk pe (d - b) b (by omega)
      rw [Nat.zero_add, p0, e] at w1
      rw [show b + (d - b) = d by omega, pk] at w2
      exact mn _ (by omega) ⟨t, ht, w1.add w2⟩
    · by_cases y : a < d
      · simp only [x, y, if_true, if_false] at e
        have w1 := path_wk pe a 0 (by omega)
        rw [Nat.zero_add, p0, e] at w1
        exact mn a y ⟨b - d, by omega, w1⟩
      · simp only [x, y, if_false] at e
        have w0 := path_wk fe (b - d - (a - d)) (a - d) (by omega)
        rw [show a - d + (b - d - (a - d)) = b - d by omega, ← e] at w0
        have := g.m _ (F (a - d)) (by omega) (ltF _ (by omega)) w0
        omega
theorem wielandt (hm : isMat M = true) (hR : ∀ i j, i < M.length → j < M.length → Rc M i j) (hp : ∀ i, i < M.length → perN M i = 1) : ∃ k, 1 ≤ k ∧ k ≤ exM M.length ∧ Full M k := by
  have h8 := isMat_n hm
  have hP : ∀ i, i < M.length → PerS M i 1 := fun i hi => by have := perN_ok hm hi; rwa [hp i hi] at this
  obtain ⟨s, hs, g⟩ := girth_ex hm (by rw [hp 0 (by omega)]; decide)
  have s1 := g.p
  by_cases c : s = M.length
  · subst c
    have := (hP 0 (by omega)).2 _ fun k w => girth_all hm g k 0 (by omega) w
    have n1 := Nat.dvd_one.1 this
    obtain ⟨c, hc, w⟩ := g.e
    refine ⟨1, by omega, by rw [n1]; decide, fun i hi j hj => ?_⟩
    rw [n1] at w
    obtain rfl : c = i := by omega
    obtain rfl : c = j := by omega
    exact w
  · obtain ⟨c0, hc0, w⟩ := g.e
    obtain ⟨F, F0, Fk, fe⟩ := w.path
    have fz : F s = F 0 := by rw [F0, Fk]
    have h0 : F 0 < M.length := by rw [F0]; exact hc0
    have ltF := path_lt hm h0 fe
    obtain ⟨m, hmn⟩ : ∃ m, M.length = m + 2 := ⟨M.length - 2, by omega⟩
    refine ⟨M.length + s * (M.length - 2), by omega, ?_, fun v hv j hj => ?_⟩
    · have : s * m ≤ (m + 1) * m := Nat.mul_le_mul_right m (by omega)
      unfold exM
      rw [hmn, show m + 2 - 2 = m by omega, show m + 2 - 1 = m + 1 by omega, Nat.mul_succ (m + 1) m]
      omega
    · obtain ⟨d, t, hd, ht, w1⟩ := reach_cyc hm g h0 fe hR hv
      obtain ⟨t', ht', w2⟩ := cyc_go s1 fe fz (M.length - s - d) t ht
      have hu := ltF t' (by omega)
      have lp : Wk M s (F t') (F t') := by
        have a := path_wk fe (s - t') t' (by omega)
        have b := path_wk fe t' 0 (by omega)
        rw [show t' + (s - t') = s by omega, fz] at a
        rw [Nat.zero_add] at b
        have := a.add b
        rwa [show s - t' + t' = s by omega] at this
      obtain ⟨q, wq⟩ := s_conn s1 (hP j hj) (hR (F t') j hu hj)
      obtain ⟨q', hq', w3⟩ := s_short hm hu wq
      have w4 := (wk_rep lp (M.length - 1 - q')).add w3
      rw [← Nat.mul_add, show M.length - 1 - q' + q' = M.length - 1 by omega] at w4
      have w5 := (w1.add w2).add w4
      rw [show d + (M.length - s - d) = M.length - s by omega] at w5
      have e : M.length - s + s * (M.length - 1) = M.length + s * (M.length - 2) := by
        rw [hmn, show m + 2 - 2 = m by omega, show m + 2 - 1 = m + 1 by omega, Nat.mul_succ s m]
        omega
      rw [← e]
      exact w5
theorem full_next (hm : isMat M = true) {k : Nat} (hk : 1 ≤ k) (h : Full M k) : Full M (k + 1) := fun i hi j hj => by
  obtain ⟨k, rfl⟩ : ∃ m, k = m + 1 := ⟨k - 1, by omega⟩
  obtain ⟨u, e2, _⟩ := h i hi i hi
  exact ⟨u, e2, h u (ent_lt hm e2).2 j hj⟩
theorem full_prim (hm : isMat M = true) {k : Nat} (hk : 1 ≤ k) (h : Full M k) {i : Nat} (hi : i < M.length) : clN M i = 0 ∧ perN M i = 1 := by
  have h8 := isMat_n hm
  refine ⟨?_, ?_⟩
  · have := (clN_ok hm hi).2.2 0 ⟨⟨k, h i hi 0 (by omega)⟩, ⟨k, h 0 (by omega) i hi⟩⟩
    omega
  · have p := (perN_ok hm hi).1
    have a := p k (h i hi i hi)
    have b := p (k + 1) (full_next hm hk h i hi i hi)
    have := Nat.dvd_sub b a
    rw [show k + 1 - k = 1 by omega] at this
    exact Nat.dvd_one.1 this
end
end Go.Proofs.Ytjeemgaoonapgaa.Ev
set_option linter.unusedVariables false
set_option linter.unusedSimpArgs false
namespace Go.Proofs.Ytjeemgaoonapgaa.Ev
open Go Go.AEv
attribute [local simp] evFunc initS evOps_c evTrim_c evSkip_c evExit_c evRet_c evSeq_c evCond_c evBlock_c evDraw_c runOps_n runOps_c exec_n exec_g pure1_c act AOpd.ev T.get T.set T.put evBin evUn forceT_eq forceV_eq forceL_eq evRess evRes one keep runFP_n runFP_c app_none AV.flats AV.flat came_some List.getElem?_cons_zero List.getElem?_cons_succ beqT wrapI idxI tdivI tmodI decT decF ibT ibF inT inF evScope_c if_pos if_neg Cm_some thenW_n thenW_e thenW_r blkW_n blkW_e blkW_r goI kn putAt AV.cells fillA loadA takeA mk Eff.isAll Eff.isNone Eff.commutes Eff.spares okPair apart eqAgg fits LK.fits allEq aveq eqk mmA
section
variable {M : List (List Int)}
noncomputable def prB (M : List (List Int)) : Nat → Bool
  | 0 => true
  | i + 1 => prB M i && (decide (clN M i = 0) && decide (perN M i = 1))
theorem prB_iff : ∀ {n}, prB M n = true ↔ ∀ i, i < n → clN M i = 0 ∧ perN M i = 1
  | 0 => ⟨fun _ i h => by omega, fun _ => rfl⟩
  | n + 1 => by
    unfold prB
    rw [Bool.and_eq_true, prB_iff (n := n), Bool.and_eq_true, decide_eq_true_eq, decide_eq_true_eq]
    constructor
    · rintro ⟨a, b⟩ i hi
      by_cases e : i = n
      · subst e; exact b
      · exact a i (by omega)
    · intro h
      exact ⟨fun i hi => h i (by omega), h n (by omega)⟩
theorem ex_prim (hm : isMat M = true) : exB M = prB M M.length ∧ (exB M = true → 1 ≤ exN M ∧ exN M ≤ exM M.length ∧ Full M (exN M)) := by
  have h8 := isMat_n hm
  obtain ⟨a1, a2, a3, a4⟩ := fva_le (fullB M) (exM M.length) 1
  have ok : exB M = true → 1 ≤ exN M ∧ exN M ≤ exM M.length ∧ Full M (exN M) := fun h => by
    have le : exN M ≤ exM M.length := of_decide_eq_true h
    exact ⟨a1, le, (fullB_iff hm).1 (a4 (by show exN M < 1 + exM M.length; omega))⟩
  refine ⟨?_, ok⟩
  apply Bool.eq_iff_iff.2
  rw [prB_iff]
  constructor
  · intro h i hi
    obtain ⟨k1, _, kf⟩ := ok h
    exact full_prim hm k1 kf hi
  · intro h
    obtain ⟨k, k1, k2, kf⟩ := wielandt hm (fun i j hi hj => ((clN_eq hm hi hj).1 (by rw [(h i hi).1, (h j hj).1])).1) (fun i hi => (h i hi).2)
    refine decide_eq_true ?_
    refine Nat.le_of_not_lt fun x => ?_
    have := a3 k k1 (by show k < exN M; omega)
    rw [(fullB_iff hm).2 kf] at this
    cases this
theorem w7_pr (J : CallF) {H : Heap} {qc qp : Nat} {x0 x5 x6 x7 : AV} (gc : H.get qc = .cells 1 M.length (gs (clsL M))) (gp : H.get qp = .cells 1 M.length (gs (pdL M))) (h0 : x0 = G M.length) (h8 : M.length ≤ 8) :
    Tr tbl J c7_l0 (fun s h => h = H ∧ s.get [] = x0 ∧ s.get [false, true] = x5 ∧ s.get [true, true] = x6 ∧ s.get [false, false, false] = x7 ∧ s.get [true, false, false] = .slice qc 0 M.length M.length ∧ s.get [true, true, false] = .slice qp 0 M.length M.length ∧ s.get [true, false, true] = .bool (prB M 0) ∧ s.get [false, true, true] = G ((0 : Nat) : Int)) (.exit 0) (fun s h => h = H ∧ s.get [] = x0 ∧ s.get [false, true] = x5 ∧ s.get [true, true] = x6 ∧ s.get [false, false, false] = x7 ∧ s.get [true, false, true] = .bool (prB M M.length)) := by
  subst h0
  refine Tr.rounds (P := fun i => (fun s h => h = H ∧ s.get [] = G M.length ∧ s.get [false, true] = x5 ∧ s.get [true, true] = x6 ∧ s.get [false, false, false] = x7 ∧ s.get [true, false, false] = .slice qc 0 M.length M.length ∧ s.get [true, true, false] = .slice qp 0 M.length M.length ∧ s.get [true, false, true] = .bool (prB M i) ∧ s.get [false, true, true] = G i)) (M := M.length) (fun i hi => ?_) ?_ (by simp) 0 (by omega)
  · refine Tr.w fun s1 H1 hp R kR => W.trim ?_
    obtain ⟨rfl, q⟩ := hp
    have ec : (gs (clsL M))[i]? = some (G (clN M i)) := gl_at _ hi
    have ep : (gs (pdL M))[i]? = some (G (perN M i)) := gl_at _ hi
    have ec' := getI ec
    have ep' := getI ep
    have es : prB M (i + 1) = (prB M i && (decide (clN M i = 0) && decide (perN M i = 1))) := rfl
    rw [es] at kR
    clear es
    generalize prB M i = d at *
    generalize clN M i = u at *
    generalize perN M i = w at *
    generalize gs (clsL M) = cc at *
    generalize gs (pdL M) = cp at *
    generalize M.length = n at *
    cases d
    · refine W.assoc ?_
      refine W.seq (W.chunk ?_)
      simp (disch := first|omega|exact zE rfl|exact zO|exact zL rfl) [c7_o10, zG, q]
      refine W.seq (W.chunk ?_)
      simp (disch := first|omega|exact zE rfl|exact zO|exact zL rfl) [zG, q]
      refine W.seq (W.block ?_)
      refine W.chunk ?_
      simp (disch := first|omega|exact zE rfl|exact zO|exact zL rfl) [c7_o11, zG, q, gc, gp, ec, ec', ep, ep']
      refine W.chunk ?_
      simp (disch := first|omega|exact zE rfl|exact zO|exact zL rfl) [c7_o12, zG, q]
      exact kR _ _ (by simp [T.get, q])
    · by_cases hu : u = 0
      · by_cases hw : w = 1
        · subst hu; subst hw
          refine W.assoc ?_
          refine W.seq (W.chunk ?_)
          simp (disch := first|omega|exact zE rfl|exact zO|exact zL rfl) [c7_o10, zG, q]
          refine W.seq (W.chunk ?_)
          simp (disch := first|omega|exact zE rfl|exact zO|exact zL rfl) [zG, q]
          refine W.seq (W.block ?_)
          refine W.chunk ?_
          simp (disch := first|omega|exact zE rfl|exact zO|exact zL rfl) [c7_o11, zG, q, gc, gp, ec, ec', ep, ep']
          refine W.chunk ?_
          simp (disch := first|omega|exact zE rfl|exact zO|exact zL rfl) [c7_o12, zG, q]
          exact kR _ _ (by simp [T.get, q])
        · subst hu
          refine W.assoc ?_
          refine W.seq (W.chunk ?_)
          simp (disch := first|omega|exact zE rfl|exact zO|exact zL rfl) [c7_o10, zG, q]
          refine W.seq (W.chunk ?_)
          simp (disch := first|omega|exact zE rfl|exact zO|exact zL rfl) [zG, q]
          refine W.seq (W.block ?_)
          refine W.chunk ?_
          simp (disch := first|omega|exact zE rfl|exact zO|exact zL rfl) [c7_o11, zG, q, gc, gp, ec, ec', ep, ep']
          refine W.chunk ?_
          simp (disch := first|omega|exact zE rfl|exact zO|exact zL rfl) [c7_o12, zG, q]
          exact kR _ _ (by simp [T.get, q, hw])
      · refine W.assoc ?_
        refine W.seq (W.chunk ?_)
        simp (disch := first|omega|exact zE rfl|exact zO|exact zL rfl) [c7_o10, zG, q]
        refine W.seq (W.chunk ?_)
        simp (disch := first|omega|exact zE rfl|exact zO|exact zL rfl) [zG, q]
        refine W.seq (W.block ?_)
        refine W.chunk ?_
        simp (disch := first|omega|exact zE rfl|exact zO|exact zL rfl) [c7_o11, zG, q, gc, gp, ec, ec', ep, ep']
        refine W.chunk ?_
        simp (disch := first|omega|exact zE rfl|exact zO|exact zL rfl) [c7_o12, zG, q]
        exact kR _ _ (by simp [T.get, q, hu])
  · refine Tr.w fun s1 H1 hp R kR => W.trim ?_
    obtain ⟨rfl, q⟩ := hp
    generalize prB M M.length = d at *
    generalize M.length = n at *
    refine W.assoc ?_
    refine W.seq (W.chunk ?_)
    simp (disch := first|omega|exact zE rfl|exact zO|exact zL rfl) [c7_o10, zG, q]
    refine W.seq (W.chunk ?_)
    simp (disch := first|omega|exact zE rfl|exact zO|exact zL rfl) [zG, q]
    exact kR _ _ (by simp [T.get, q])
theorem w7_j (J : CallF) (k35 : K35 J) (hm : isMat M = true) {H : Heap} {x : AV} {i k : Nat} (hx : MR H x M) (hi : i < M.length) (hk : k ≤ 50) (f1 : Full M k) (f2 : Full M (k + 1)) :
    Tr tbl J c7_l1 (fun s h => Kp (fun _ => False) H h ∧ s.get [] = G M.length ∧ s.get [false, true] = x ∧ s.get [true, true] = G k ∧ s.get [true, true, true] = G i ∧ s.get [false, false, false, false] = G ((0 : Nat) : Int)) (.exit 4)
      (fun s h => Kp (fun _ => False) H h ∧ s.get [] = G M.length ∧ s.get [false, true] = x ∧ s.get [true, true] = G k ∧ s.get [true, true, true] = G i) := by
  have h8 := isMat_n hm
  refine Tr.rounds (P := fun j s h => Kp (fun _ => False) H h ∧ s.get [] = G M.length ∧ s.get [false, true] = x ∧ s.get [true, true] = G k ∧ s.get [true, true, true] = G i ∧ s.get [false, false, false, false] = G j) (M := M.length) (fun j hj => ?_) ?_ (by simp) 0 (by omega)
  · refine Tr.w fun s1 H1 hp R kR => W.trim ?_
    obtain ⟨kp, q⟩ := hp
    have hx1 := hx.kp kp
    obtain ⟨v1, own1, j35, _, _, p1⟩ := k35 H1 ⟨M, x, i, j, k⟩ hx1
    obtain ⟨w1, rfl, _⟩ := p1 ⟨hm, by simp only; omega, by simp only; omega, by simp only; omega⟩ (by simp only [Int.toNat_natCast]; exact (cw_iff hm).2 (f1 i hi j hj))
    simp only at j35
    have k1 : Kp (fun _ => False) H1 (H1.plus own1) := Kp.plus _ _
    have hx2 := hx1.kp k1
    generalize hH2 : H1.plus own1 = H2 at *
    obtain ⟨v2, own2, j35b, _, _, p2⟩ := k35 H2 ⟨M, x, i, j, ((k + 1 : Nat) : Int)⟩ hx2
    obtain ⟨w2, rfl, _⟩ := p2 ⟨hm, by simp only; omega, by simp only; omega, by simp only; omega⟩ (by simp only [Int.toNat_natCast]; exact (cw_iff hm).2 (f2 i hi j hj))
    simp only [Int.natCast_add, Int.natCast_one] at j35b
    have k2 : Kp (fun _ => False) H2 (H2.plus own2) := Kp.plus _ _
    generalize hH3 : H2.plus own2 = H3 at *
    have fin := (kp.trans k1).trans k2
    clear p1 p2 hx hx1 hx2 f1 f2 hm
    generalize M.length = n at *
    refine W.assoc ?_
    refine W.seq (W.chunk ?_)
    simp (disch := first|omega|exact zE rfl|exact zO|exact zL rfl) [c7_o20, zG, q]
    refine W.seq (W.chunk ?_)
    simp (disch := first|omega|exact zE rfl|exact zO|exact zL rfl) [zG, q]
    refine W.seq (W.block ?_)
    refine W.seq (W.chunk ?_)
    simp (disch := first|omega|exact zE rfl|exact zO|exact zL rfl) [c7_o21, zG, q, j35, app_if, app_if', hH2]
    refine W.seq (W.chunk ?_)
    simp (disch := first|omega|exact zE rfl|exact zO|exact zL rfl) [c7_o22, zG, q, j35b, app_if, app_if', hH3]
    refine W.seq (W.chunk ?_)
    simp (disch := first|omega|exact zE rfl|exact zO|exact zL rfl) [c7_o23, zG, q]
    refine W.chunk ?_
    simp (disch := first|omega|exact zE rfl|exact zO|exact zL rfl) [c7_o24, zG, q]
    refine W.chunk ?_
    simp (disch := first|omega|exact zE rfl|exact zO|exact zL rfl) [c7_o25, zG, q]
    exact kR _ _ ⟨fin, by simp [T.get, q]⟩
  · refine Tr.w fun s1 H1 hp R kR => W.trim ?_
    obtain ⟨kp, q⟩ := hp
    clear hx f1 f2 hm
    generalize M.length = n at *
    refine W.assoc ?_
    refine W.seq (W.chunk ?_)
    simp (disch := first|omega|exact zE rfl|exact zO|exact zL rfl) [c7_o20, zG, q]
    refine W.seq (W.chunk ?_)
    simp (disch := first|omega|exact zE rfl|exact zO|exact zL rfl) [zG, q]
    exact kR _ _ ⟨kp, by simp [T.get, q]⟩
theorem w7_i (J : CallF) (k35 : K35 J) (hm : isMat M = true) {H : Heap} {x : AV} {k : Nat} (hx : MR H x M) (hk : k ≤ 50) (f1 : Full M k) (f2 : Full M (k + 1)) :
    Tr tbl J c7_l2 (fun s h => Kp (fun _ => False) H h ∧ s.get [] = G M.length ∧ s.get [false, true] = x ∧ s.get [true, true] = G k ∧ s.get [true, true, true] = G ((0 : Nat) : Int)) (.exit 2) (fun s h => Kp (fun _ => False) H h) := by
  have h8 := isMat_n hm
  refine Tr.rounds (P := fun i s h => Kp (fun _ => False) H h ∧ s.get [] = G M.length ∧ s.get [false, true] = x ∧ s.get [true, true] = G k ∧ s.get [true, true, true] = G i) (M := M.length) (fun i hi => ?_) ?_ (by simp) 0 (by omega)
  · refine Tr.w fun s1 H1 hp R kR => W.trim ?_
    obtain ⟨kp, q⟩ := hp
    have l1 := w7_j J k35 hm hx hi hk f1 f2
    clear hx f1 f2 hm
    generalize M.length = n at *
    refine W.assoc ?_
    refine W.seq (W.chunk ?_)
    simp (disch := first|omega|exact zE rfl|exact zO|exact zL rfl) [c7_o18, zG, q]
    refine W.seq (W.chunk ?_)
    simp (disch := first|omega|exact zE rfl|exact zO|exact zL rfl) [zG, q]
    refine W.seq (W.block ?_)
    refine W.seq (W.chunk ?_)
    simp (disch := first|omega|exact zE rfl|exact zO|exact zL rfl) [c7_o19, zG, q]
    refine W.block ?_
    refine W.use (l1) (by simp (disch := first|omega|exact zE rfl|exact zO|exact zL rfl) [zG, q, kp]) fun s1 H1 hp => ?_
    obtain ⟨kp, q⟩ := hp
    try simp only [zW, if_true]
    refine W.chunk ?_
    simp (disch := first|omega|exact zE rfl|exact zO|exact zL rfl) [c7_o26, zG, q]
    exact kR _ _ ⟨kp, by simp [T.get, q]⟩
  · refine Tr.w fun s1 H1 hp R kR => W.trim ?_
    obtain ⟨kp, q⟩ := hp
    clear hx f1 f2 hm
    generalize M.length = n at *
    refine W.assoc ?_
    refine W.seq (W.chunk ?_)
    simp (disch := first|omega|exact zE rfl|exact zO|exact zL rfl) [c7_o18, zG, q]
    refine W.seq (W.chunk ?_)
    simp (disch := first|omega|exact zE rfl|exact zO|exact zL rfl) [zG, q]
    exact kR _ _ kp
end
structure KnV (J : CallF) : Prop where
  k23 : ∀ h, J 23 [] h = some (.bool true, [], false)
  k27 : K27 J
  k28 : K28 J
  k31 : K31 J
  k32 : K32 J
  k34 : K34 J
  k35 : K35 J
theorem wielandt_law (J : CallF) (K : KnV J) (hJ : ∀ a h, J 7 a h = none) (h : Heap) (a : Int) {m : AV} {M : List (List Int)} (hm : MR h m M) : CallsTo tbl J 7 [G a, m] h (.bool true, [], false) := by
  refine Tr.fnv (cf := c7) (e := .ret) (s := T.set (T.set .leaf [] (G a)) [false] m) (by decide) rfl (hJ _ _) rfl rfl rfl (by simp) ?_
  refine Tr.w fun s1 H1 hp R kR => ?_
  obtain ⟨rfl, rfl⟩ := hp
  have q : True := trivial
  have fin : ∀ s h', s.get [true, false] = .bool true → R .ret s h' := fun s h' a => kR _ _ ⟨[.bool true], by simp [c7, evRess, evRes, a], rfl⟩
  clear kR
  have b1 := mdZ_bd a (show (0 : Int) < 8 by decide)
  have k1 := fun h => K.k27 a 8 h (by decide) (by decide)
  obtain ⟨n, hn⟩ : ∃ n : Nat, mdZ a 8 = (n : Int) := ⟨(mdZ a 8).toNat, by omega⟩
  rw [hn] at b1 k1
  have ns : ((n + 1 : Nat) : Int) = 1 + (n : Int) := by omega
  obtain ⟨x, own, N, k28, tg, hlN, hq⟩ := K.k28 (frameOf h) m M (n + 1) 1 (hm.lo []) (by omega) (by decide)
  have hN : isMat N = true := sqM_mat hq hlN (by omega) (by decide)
  have h8 := isMat_n hN
  have hx := tg.mr
  clear tg hq
  rw [ns] at k28
  generalize hHa : (frameOf h).plus own = Ha at *
  have k23 := K.k23
  have k34 := K.k34 Ha ⟨N, x⟩ hx
  obtain ⟨v31, own31, k31, _, p31⟩ := K.k31 Ha ⟨N, x⟩ hx
  obtain ⟨wc, rfl, ngc⟩ := p31 hN
  simp only at k31 ngc k34
  have kb : Kp (fun _ => False) Ha (Ha.plus own31) := Kp.plus _ _
  have hxb := hx.kp kb
  generalize hHb : Ha.plus own31 = Hb at *
  obtain ⟨v32, own32, k32, _, p32⟩ := K.k32 Hb ⟨N, x⟩ hxb
  obtain ⟨wp, rfl, ngp⟩ := p32 hN
  simp only at k32 ngp
  have kc : Kp (fun _ => False) Hb (Hb.plus own32) := Kp.plus _ _
  have hxc := hxb.kp kc
  generalize hHc : Hb.plus own32 = Hc at *
  have lc : (gs (clsL N)).length = N.length := gl_len _ _
  have lp : (gs (pdL N)).length = N.length := gl_len _ _
  obtain ⟨qc, rfl, gc⟩ := ngc.l.sl (by intro e; rw [e] at lc; simp at lc; omega)
  obtain ⟨qp, rfl, gp⟩ := ngp.l.sl (by intro e; rw [e] at lp; simp at lp; omega)
  rw [lc] at k31 gc
  rw [lp] at k32 gp
  have gc := kc.at gc (by simp) id
  have hnl : (N.length : Int) = 1 + (n : Int) := by omega
  obtain ⟨pe, pf⟩ := ex_prim hN
  have l0 := fun (x6 x7 : AV) => w7_pr (J := J) (x0 := G (1 + (n : Int))) (x5 := x) (x6 := x6) (x7 := x7) gc gp (by rw [hnl]) h8.2
  rw [← pe] at l0
  simp only [show prB N 0 = true from rfl] at l0
  rw [if_pos hN] at k34
  cases hb : exB N
  · rw [hb] at k34
    simp only [Bool.false_eq_true, if_false] at k34
    rw [hb] at l0
    clear ngc ngp p31 p32 pe pf hx hxb hxc
    refine W.seq (W.chunk ?_)
    simp (disch := first|omega|exact zE rfl|exact zO|exact zL rfl) [c7_o0, zG, q]
    refine W.seq (W.chunk ?_)
    simp (disch := first|omega|exact zE rfl|exact zO|exact zL rfl) [c7_o1, zG, q, k1]
    refine W.seq (W.chunk ?_)
    simp (disch := first|omega|exact zE rfl|exact zO|exact zL rfl) [c7_o2, zG, q, k28, app_if, app_if', hHa]
    refine W.seq (W.chunk ?_)
    simp (disch := first|omega|exact zE rfl|exact zO|exact zL rfl) [c7_o3, zG, q, k34]
    refine W.seq (W.chunk ?_)
    simp (disch := first|omega|exact zE rfl|exact zO|exact zL rfl) [c7_o4, zG, q, k31, app_if, app_if', hHb]
    refine W.seq (W.chunk ?_)
    simp (disch := first|omega|exact zE rfl|exact zO|exact zL rfl) [c7_o5, zG, q, k32, app_if, app_if', hHc]
    refine W.assoc ?_
    refine W.seq (W.chunk ?_)
    simp (disch := first|omega|exact zE rfl|exact zO|exact zL rfl) [c7_o6, zG, q]
    refine W.seq (W.chunk ?_)
    simp (disch := first|omega|exact zE rfl|exact zO|exact zL rfl) [c7_o7, zG, q]
    refine W.seq (W.chunk ?_)
    simp (disch := first|omega|exact zE rfl|exact zO|exact zL rfl) [c7_o8, zG, q]
    refine W.assoc ?_
    refine W.seq (W.chunk ?_)
    simp (disch := first|omega|exact zE rfl|exact zO|exact zL rfl) [c7_o9, zG, q]
    refine W.seq (W.block ?_)
    refine W.use (l0 (G 0) (G 6)) (by simp (disch := first|omega|exact zE rfl|exact zO|exact zL rfl) [zG, q]) fun s1 H1 hp => ?_
    obtain ⟨rfl, q⟩ := hp
    try simp only [zW, if_true]
    refine W.assoc ?_
    refine W.seq (W.chunk ?_)
    simp (disch := first|omega|exact zE rfl|exact zO|exact zL rfl) [c7_o13, zG, q]
    refine W.seq (W.chunk ?_)
    simp (disch := first|omega|exact zE rfl|exact zO|exact zL rfl) [c7_o14, zG, q, k23]
    exact fin _ _ (by simp [T.get])
  · rw [hb] at k34
    simp only [if_true] at k34
    obtain ⟨e1, e2, ef⟩ := pf hb
    have eb := exM_bd h8
    have l2 := w7_i J K.k35 hN hxc (by omega) ef (full_next hN e1 ef)
    have kz : Kp (fun _ => False) Hc Hc := Kp.refl _
    have n1 : 1 + (n : Int) - 1 = n := by omega
    have n2 : (n : Int) * (n : Int) = ((exM N.length - 1 : Nat) : Int) := by rw [← eb.2.2, hnl, n1]
    rw [hb] at l0
    clear ngc ngp p31 p32 pe pf hx hxb hxc ef
    generalize exN N = k at *
    generalize exM N.length = em at *
    refine W.seq (W.chunk ?_)
    simp (disch := first|omega|exact zE rfl|exact zO|exact zL rfl) [c7_o0, zG, q]
    refine W.seq (W.chunk ?_)
    simp (disch := first|omega|exact zE rfl|exact zO|exact zL rfl) [c7_o1, zG, q, k1]
    refine W.seq (W.chunk ?_)
    simp (disch := first|omega|exact zE rfl|exact zO|exact zL rfl) [c7_o2, zG, q, k28, app_if, app_if', hHa]
    refine W.seq (W.chunk ?_)
    simp (disch := first|omega|exact zE rfl|exact zO|exact zL rfl) [c7_o3, zG, q, k34]
    refine W.seq (W.chunk ?_)
    simp (disch := first|omega|exact zE rfl|exact zO|exact zL rfl) [c7_o4, zG, q, k31, app_if, app_if', hHb]
    refine W.seq (W.chunk ?_)
    simp (disch := first|omega|exact zE rfl|exact zO|exact zL rfl) [c7_o5, zG, q, k32, app_if, app_if', hHc]
    refine W.assoc ?_
    refine W.seq (W.chunk ?_)
    simp (disch := first|omega|exact zE rfl|exact zO|exact zL rfl) [c7_o6, zG, q]
    refine W.seq (W.chunk ?_)
    simp (disch := first|omega|exact zE rfl|exact zO|exact zL rfl) [c7_o7, zG, q]
    refine W.seq (W.chunk ?_)
    simp (disch := first|omega|exact zE rfl|exact zO|exact zL rfl) [c7_o8, zG, q]
    refine W.assoc ?_
    refine W.seq (W.chunk ?_)
    simp (disch := first|omega|exact zE rfl|exact zO|exact zL rfl) [c7_o9, zG, q]
    refine W.seq (W.block ?_)
    refine W.use (l0 (G k) (G 0)) (by simp (disch := first|omega|exact zE rfl|exact zO|exact zL rfl) [zG, q]) fun s1 H1 hp => ?_
    obtain ⟨rfl, q⟩ := hp
    try simp only [zW, if_true]
    refine W.assoc ?_
    refine W.seq (W.chunk ?_)
    simp (disch := first|omega|exact zE rfl|exact zO|exact zL rfl) [c7_o13, zG, q]
    refine W.seq (W.chunk ?_)
    simp (disch := first|omega|exact zE rfl|exact zO|exact zL rfl) [c7_o14, zG, q]
    refine W.assoc ?_
    refine W.seq (W.chunk ?_)
    simp (disch := first|omega|exact zE rfl|exact zO|exact zL rfl) [c7_o15, zG, q, n1, n2]
    refine W.seq (W.chunk ?_)
    simp (disch := first|omega|exact zE rfl|exact zO|exact zL rfl) [c7_o16, zG, q]
    refine W.assoc ?_
    refine W.seq (W.chunk ?_)
    simp (disch := first|omega|exact zE rfl|exact zO|exact zL rfl) [c7_o17, zG, q]
    refine W.seq (W.block ?_)
    refine W.use (l2) (by simp (disch := first|omega|exact zE rfl|exact zO|exact zL rfl) [zG, q, kz, hnl]) fun s1 H1 hp => ?_
    obtain kl := hp
    try simp only [zW, if_true]
    refine W.seq (W.chunk ?_)
    simp (disch := first|omega|exact zE rfl|exact zO|exact zL rfl) [c7_o27, zG, q, k23]
    refine W.ret ?_
    try simp only [zW, if_true]
    exact fin _ _ (by simp [T.get])
theorem knV : KnV T31 where
  k23 := fun h => by
    simp (disch := decide) only [T31, T30, T29, T28, T27, T26, T25, T24, T23, T22, T21, T20, T19, T18, T17, T16, T15, T14, T13, T12, T11, T10, T9, T8, T7, T6, T5, T4, T3, T2, T1, addI_ne, addX_ne, addV_ne, addK_ne]
    exact k23_r h
  k27 := fun x n h a b => by
    simp (disch := decide) only [T31, T30, T29, T28, T27, T26, T25, T24, T23, T22, T21, T20, T19, T18, T17, T16, T15, T14, T13, T12, T11, T10, T9, T8, T7, T6, T5, T4, T3, addX_ne, addK_ne]
    exact k27_2 x n h a b
  k28 := fun h y M n most a b c => by
    simp (disch := decide) only [T31, T30, T29, T28, T27, T26, T25, T24, T23, T22, T21, T20, T19, T18, T17, T16, T15, T14, T13, T12, T11, T10, T9, T8, T7, T6, T5, T4, addX_ne, addK_ne]
    exact k28 h y M n most a b c
  k31 := fun h a ha => by
    simp (disch := decide) only [T31, T30, T29, T28, T27, T26, T25, T24, addK_ne]
    exact k31 h a ha
  k32 := fun h a ha => by
    simp (disch := decide) only [T31, T30, T29, T28, addK_ne]
    exact k32 h a ha
  k34 := fun h a ha => by
    simp (disch := decide) only [T31, T30, T29, T28, T27, T26, T25, T24, T23, T22, T21, T20, T19, T18, T17, T16, T15, T14, T13, T12, T11, addK_ne]
    exact k34 h a ha
  k35 := fun h a ha => by
    simp (disch := decide) only [T31, T30, T29, T28, T27, T26, T25, T24, T23, T22, T21, T20, T19, T18, T17, T16, T15, T14, T13, T12, T11, T10, addK_ne]
    exact k35 h a ha
theorem wielandt_ok (h : Heap) (a : Int) {m : AV} {M : List (List Int)} (hm : MR h m M) : CallsTo tbl T31 7 [G a, m] h (.bool true, [], false) := wielandt_law T31 knV (fun _ _ => by simp (disch := decide) only [T31, T30, T29, T28, T27, T26, T25, T24, T23, T22, T21, T20, T19, T18, T17, T16, T15, T14, T13, T12, T11, T10, T9, T8, T7, T6, T5, T4, T3, T2, T1, R21, R20, R19, R18, R17, R16, R15, R14, R13, R12, R11, R10, R9, R8, R7, R6, R5, R4, R3, R2, R1, addI_ne, addX_ne, addV_ne, addK_ne]; rfl) h a hm
end Go.Proofs.Ytjeemgaoonapgaa.Ev
set_option linter.unusedVariables false
set_option linter.unusedSimpArgs false
namespace Go.AEv
open Go.ChangeShapes Go.WideShapes Go.Proofs.Ytjeemgaoonapgaa.Ev
theorem MR.ext {h h' : Heap} (e : Ext h h') {y : AV} {M : List (List Int)} (m : MR h y M) : MR h' y M := by
  rcases m with m | ⟨b, v, cs, rfl, g, hl, hr⟩
  · exact .inl m
  · refine .inr ⟨b, v, cs, rfl, e _ _ g (by simp), hl, fun i r q => ?_⟩
    obtain ⟨l, h1, h2⟩ := hr i r q
    exact ⟨l, h1, LR.ext e h2⟩
theorem rows_lo {CK : CKT} {w : World} {H : Type} {enc : TypeId × Value → H} {P : Program} {e i : TypeId} (he : P.underlying e = some (.slice i)) (hi : P.underlying i = some (.int .i64)) (hc : P.cellsOf i = 1) :
    ∀ (vs : List Value) {φ : Nat → Emb} {h : Heap} (ho : h.own = []) (hr : HR CK w [] φ h w), (∀ u ∈ vs, ∃ fuel z, DataW.trod enc P w 0 (fun _ => true) true fuel e [u] = some z) →
    ∃ φ' h', ∃ (rs : List AV) (ls : List (List Int)), h'.own = [] ∧ HR CK w [] φ' h' w ∧ Stp φ h φ' h' ∧ Ext h h' ∧ rs.length = vs.length ∧ ls.length = vs.length ∧ ∀ (j : Nat) u r, vs[j]? = some u → rs[j]? = some r → VR φ' h' r u ∧ Value.oneCell' u = true ∧ ∃ l, ls[j]? = some l ∧ LR h' r l
  | [], φ, h, ho, hr, _ => ⟨φ, h, [], [], ho, hr, Stp.refl φ h, Ext.refl h, rfl, rfl, fun j u r q => by simp at q⟩
  | u :: us, φ, h, ho, hr, ht => by
    obtain ⟨fuel, z, hf⟩ := ht u (by simp)
    obtain ⟨φ1, h1, x, l, o1, r1, s1, e1, v1, p1, c1⟩ := ints_lo0 ho hr he hi hc hf
    obtain ⟨φ2, h2, rs, ls, o2, r2, s2, e2, l1, l2, q⟩ := rows_lo he hi hc us o1 r1 (fun u' hu => ht u' (by simp [hu]))
    refine ⟨φ2, h2, x :: rs, l :: ls, o2, r2, s1.trans s2, e1.trans e2, by simp [l1], by simp [l2], fun j u' r hu hr' => ?_⟩
    cases j with
    | zero =>
      simp only [List.getElem?_cons_zero, Option.some.injEq] at hu hr'
      subst hu hr'
      exact ⟨VR.step s2 _ _ v1, c1, l, rfl, p1.ext e2⟩
    | succ j =>
      simp only [List.getElem?_cons_succ] at hu hr' ⊢
      exact q j u' r hu hr'
theorem mat_lo {CK : CKT} {φ : Nat → Emb} {h : Heap} {w : World} (ho : h.own = []) (hr : HR CK w [] φ h w) {H : Type} {enc : TypeId × Value → H} {P : Program} {t e i : TypeId} {v : Value} {d : DataW H} {p : List MemPlace}
    (ht : P.underlying t = some (.slice e)) (he : P.underlying e = some (.slice i)) (hi : P.underlying i = some (.int .i64)) (hce : P.cellsOf e = 1) (hci : P.cellsOf i = 1) (hvs : ∃ a len cap, v = .slice a len cap) (k : DataW.Trod enc P w 0 (fun _ => true) true t v d p) :
    ∃ φ' h' x M, h'.own = [] ∧ HR CK w [] φ' h' w ∧ Stp φ h φ' h' ∧ Ext h h' ∧ VR φ' h' x v ∧ MR h' x M := by
  obtain ⟨va, vl, vc, rfl⟩ := hvs
  obtain ⟨fuel, hf⟩ := k
  rcases DataW.trod_slice ht hf with ⟨hcs, _⟩ | ⟨a, len, cap, elems, rest, n, _, hcs, _, _, hl, hm, hlen, hel, hsp, _⟩
  · have hcs' : Value.slice va vl vc = .slice none 0 0 := (List.cons.inj hcs).1
    rw [hcs']
    exact ⟨φ, h, .nils, [], ho, hr, Stp.refl φ h, Ext.refl h, by simp [VR], .inl ⟨.inl rfl, rfl⟩⟩
  · have hcs' : Value.slice va vl vc = .slice (some a) len cap := (List.cons.inj hcs).1
    rw [hcs']
    by_cases h0 : len = 0
    · subst h0
      exact ⟨φ, h, .slice0, [], ho, hr, Stp.refl φ h, Ext.refl h, by simp [VR], .inl ⟨.inr rfl, rfl⟩⟩
    · obtain ⟨hrl, hre⟩ := hsp rfl
      have each : ∀ j, j < cap → ∃ u, w.cell? (a.add j) = some u ∧ ∃ z, DataW.trod enc P w 0 (fun _ => true) true n e [u] = some z := fun j hj => by
        have hb' : ∃ y, (w.cells? 0 (a.add (j * P.cellsOf e)) (P.cellsOf e)).bind (DataW.trod enc P w 0 (fun _ => true) true n e) = some y := by
          by_cases hjl : j < len
          · rw [hel j hjl, List.getElem?_eq_getElem (by omega)]; exact ⟨_, rfl⟩
          · have := hre (j - len) (by omega)
            rw [show len + (j - len) = j by omega] at this
            rw [this, List.getElem?_eq_getElem (by omega)]; exact ⟨_, rfl⟩
        obtain ⟨y, hy⟩ := hb'
        rw [hce, Nat.mul_one, Option.bind_eq_some_iff] at hy
        obtain ⟨cs', h1, h2⟩ := hy
        have hl1 := (World.cells?_some h1).2.1
        obtain ⟨u, rfl⟩ : ∃ u, cs' = [u] := by
          cases cs' with
          | nil => simp at hl1
          | cons u r => cases r with
            | nil => exact ⟨u, rfl⟩
            | cons u' r => simp at hl1
        exact ⟨u, cell_of_cells?_one h1, y, h2⟩
      obtain ⟨f, hfe⟩ : ∃ f : Nat → Value, ∀ j, j < cap → w.cell? (a.add j) = some (f j) ∧ ∃ z, DataW.trod enc P w 0 (fun _ => true) true n e [f j] = some z :=
        ⟨fun j => if hj : j < cap then Classical.choose (each j hj) else .nilFunc, fun j hj => by
          simp only [dif_pos hj]
          exact Classical.choose_spec (each j hj)⟩
      obtain ⟨b, off, spot⟩ := a
      have hspot : spot = none := by simpa [Addr.add] using World.cell?_spot (hfe 0 (by omega)).1
      subst hspot
      have hcell : ∀ j, j < cap → w.cell? ⟨b, off + j, none⟩ = some (f j) := fun j hj => by rw [← Go.WideShapes.add_plain]; exact (hfe j hj).1
      obtain ⟨c, ty, fr, hb, hc0⟩ := cell_obj (hcell 0 (by omega))
      have hcj : ∀ j, j < cap → c[off + j]? = some (f j) := fun j hj => by
        obtain ⟨c', ty', fr', hb', hcj⟩ := cell_obj (hcell j hj)
        rw [hb] at hb'
        simp only [Option.some.injEq, Obj.cells.injEq] at hb'
        obtain ⟨rfl, _⟩ := hb'
        exact hcj
      have hsize : off + cap ≤ c.size := by
        have := (Array.getElem?_eq_some_iff.1 (hcj (cap - 1) (by omega))).1
        omega
      obtain ⟨φ1, h1, rs, ls, o1, r1, s1, e1, l1, l2, q⟩ := rows_lo he hi hci ((List.range len).map f) ho hr (fun u hu => by
        obtain ⟨j, hj, rfl⟩ := List.mem_map.1 hu
        obtain ⟨z, hz⟩ := (hfe j (by have := List.mem_range.1 hj; omega)).2
        exact ⟨n, z, hz⟩)
      simp only [List.length_map, List.length_range] at l1 l2
      have hat : ∀ j, j < len → ((List.range len).map f)[j]? = some (f j) := fun j hj => by simp [hj]
      refine ⟨AEv.upd φ1 h1.N ⟨b, off, cap⟩, h1.more (.cells 1 len rs), .slice h1.N 0 len len, ls, rfl, lo_add o1 r1 _ _ ?_, s1.trans (lo_stp o1 _ _), e1.trans (more_ext h1 o1 _), ?_, .inr ⟨h1.N, len, rs, by rw [l2], more_at _ _, by omega, fun j r hr' => ?_⟩⟩
      · refine ⟨c, ty, fr, hb, hsize, by show rs.length ≤ cap; omega, fun j x hx => ?_⟩
        have hj : j < len := by have := (List.getElem?_eq_some_iff.1 hx).1; omega
        obtain ⟨q1, q2, _⟩ := q j (f j) x (hat j hj) hx
        exact ⟨f j, hcj j (by omega), VR.step (lo_stp o1 _ _) _ _ q1, q2⟩
      · simp only [VR]
        exact ⟨_, cap, 1, len, _, rfl, hl, more_at _ _, Nat.le_refl _, fun _ => ⟨by simp [AEv.upd], fun _ _ => by simp [AEv.upd]⟩⟩
      · have hj : j < len := by have := (List.getElem?_eq_some_iff.1 hr').1; omega
        obtain ⟨_, _, l, q3, q4⟩ := q j (f j) r (hat j hj) hr'
        exact ⟨l, q3, q4.ext (more_ext h1 o1 _)⟩
end Go.AEv
